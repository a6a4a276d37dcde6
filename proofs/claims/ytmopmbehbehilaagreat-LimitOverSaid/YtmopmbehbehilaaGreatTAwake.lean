/- awake. -/
import Derived.Test.YtmopmbehbehilaaGreatTLim
set_option linter.unusedVariables false
set_option linter.unusedSimpArgs false
namespace Go.Proofs.YtmopmbehbehilaaGreat.Pure
open Go Go.Ab Go.Proofs.YtmopmbehbehilaaGreat.R

def wB : api_Basket := ⟨0, 0, ByteArray.empty, 0, 0, 0, [], 400000, 300000, []⟩
def wT0 : limit_Table := newT wB 1000
def asA : api_Asset := ⟨(⟨#[65]⟩ : ByteArray), 1, 0, 0, ByteArray.empty⟩
def asB : api_Asset := ⟨(⟨#[66]⟩ : ByteArray), 1, 0, 0, ByteArray.empty⟩
def wT1 : limit_Table := putT wT0 asA 300
theorem tok0 : Tok wT0 := by
  have e : wT0 = ⟨1000, 400, 300, GM.nil, GM.nil, 0⟩ := by rfl
  rw [e]
  exact ⟨by decide, by decide, by decide, fun k => by show 0 ≤ (0 : Int) ∧ (0 : Int) ≤ 400; decide, fun k => by show 0 ≤ (0 : Int) ∧ (0 : Int) ≤ 300; decide, by decide⟩
theorem tok1 : Tok wT1 := Tok_put tok0 (by decide) (by decide +kernel) (by decide)
theorem awake_r : lombardlaw16_awake_r true := by
  refine lombardlaw16_awake_of ?_
  unfold lombardlaw16_awake_w
  refine .inr ⟨_, New_r1 (by unfold newOk; decide), Br.f (by rfl) ⟨_, TRoom_r tok0, Br.f (by decide +kernel) ⟨_, TAdd_r tok0, ?_⟩⟩⟩
  have e1 : addT wT0 asA 300 = (0, wT1) := by
    unfold addT; rw [if_neg (by decide), if_neg (by decide +kernel)]; rfl
  show Br ((addT wT0 asA 300).1 != 0) _ _
  refine Br.f (by rw [e1]; rfl) ?_
  have e2 : (addT (newT wB 1000, (0 : Int)).1 asA 300).2 = wT1 := congrArg Prod.snd e1
  refine ⟨room wT1 asB, (e2 ▸ TRoom_r tok1 : limit_Table_Room_r (addT (newT wB 1000, (0 : Int)).1 asA 300).2 asB (room wT1 asB)), Br.t (by decide +kernel) ⟨addT wT1 asB 101, (e2 ▸ TAdd_r tok1 : limit_Table_Add_r (addT (newT wB 1000, (0 : Int)).1 asA 300).2 asB 101 (addT wT1 asB 101)), ?_⟩⟩
  have e3 : addT wT1 asB 101 = (24, wT1) := by
    unfold addT; rw [if_neg (by decide), if_pos (by decide +kernel)]
  rw [e3]
  exact Br.t rfl ⟨_, TOpen_r tok1, Rt.i (by decide +kernel)⟩

end Go.Proofs.YtmopmbehbehilaaGreat.Pure
