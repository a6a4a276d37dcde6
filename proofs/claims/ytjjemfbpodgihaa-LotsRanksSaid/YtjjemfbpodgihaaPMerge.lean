-- a shortened text: what this claim does not name is left out (wip/xprint/prune.py of this repo)
import Derived.Test.YtjjemfbpodgihaaPLotI
import Derived.Test.YtjjemfbpodgihaaX11
namespace Go.Proofs.Ytjjemfbpodgihaa.Pure
open Go Go.RowKit Go.Proofs.Ytjjemfbpodgihaa.X Go.Proofs.YtjjemfbpodgihaaW.PrintWords Go.Proofs.YtjjemfbpodgihaaW.PrintLast Go.Proofs.YtjjemfbpodgihaaW.PrintMore Go.Proofs.Ytjjemfbpodgihaa.PLot
def mergeS : List Lot → List Lot → List Lot × Int
  | out, [] => (out, 0)
  | out, x :: r => if ¬ (1 ≤ x.f1 ∧ x.f1 ≤ M) then ([], 1) else if (addS out x).2 = 0 then mergeS (addS out x).1 r else ([], (addS out x).2)
theorem merge_len : ∀ (b out : List Lot), out.length ≤ 64 → Sorted out → Pos out → (mergeS out b).1.length ≤ 64
  | [], _, h, _, _ => h
  | x :: r, out, h, so, po => by
    unfold mergeS
    split
    · simp
    · rename_i c
      split
      · rename_i d
        have x0 : 1 ≤ x.f1 ∧ x.f1 ≤ M := Decidable.not_not.1 c
        obtain ⟨s1, p1, l1, _⟩ := addS_ok so po h x0.1 x0.2 d
        exact merge_len r _ l1 s1 p1
      · simp
theorem merge_go (b : List Lot) (hb : b.length ≤ 200) : ∀ (n i : Nat) (out : List Lot), i + n = b.length → Sorted out → Pos out → out.length ≤ 64 →
    Ev (fun k => lots_Merge.l0 k out b (b.length : Int) (i : Int)) (mergeS out (b.drop i))
  | 0, i, out, hi, so, po, lo => by
    rw [List.drop_of_length_le (by omega)]
    refine Ev.step (f := fun _ => some (out, 0)) (fun k => ?_) (Ev.now _)
    simp only [lots_Merge.l0]
    rw [if_neg (by omega)]
  | n + 1, i, out, hi, so, po, lo => by
    have h : i < b.length := by omega
    rw [List.drop_eq_getElem_cons h]
    unfold mergeS
    have bd : ∀ x y, Ev (fun k => lots_Merge.j1 k out b (b.length : Int) (i : Int) true x y) ([], 1) := fun x y =>
      Ev.step (f := fun _ => some ([], 1)) (fun k => by simp only [lots_Merge.j1]; rw [if_pos trivial]) (Ev.now _)
    refine Ev.step (f := fun k => lots_Merge.l0 (k + 1) out b (b.length : Int) (i : Int)) (fun k => rfl) ?_
    simp only [lots_Merge.l0, rd_at h, if_pos (show (i : Int) < (b.length : Int) by omega), if_pos (show (0 : Int) ≤ (i : Int) by omega)]
    by_cases c1 : b[i].f1 < 1
    · simp only [if_pos c1]
      rw [if_pos (fun z => by omega)]
      exact bd _ _
    simp only [if_neg c1]
    by_cases c2 : b[i].f1 > 1125899906842624
    · rw [decide_eq_true c2, if_pos (fun z => by unfold M at z; omega)]
      exact bd _ _
    rw [decide_eq_false c2, if_neg (fun z => z (by unfold M; omega))]
    refine Ev.step (f := fun k => lots_Merge.j1 (k + 1) out b (b.length : Int) (i : Int) false b[i].f0 b[i].f1) (fun k => rfl) ?_
    simp only [lots_Merge.j1, Bool.false_eq_true, if_false, up h (by omega)]
    refine Ev.bind (add_ev (by omega) so po b[i] (by omega) (by unfold M; omega)) ?_
    by_cases d : (addS out b[i]).2 = 0
    · simp only [if_pos d]
      obtain ⟨s1, p1, l1, _⟩ := addS_ok so po lo (by omega) (by unfold M; omega) d
      exact merge_go b hb n (i + 1) _ (by omega) s1 p1 l1
    · simp only [if_neg d]
      exact Ev.now _
theorem cut_one {b : List Lot} {i : Nat} (h : i < b.length) : (b.take ((i + 1 : Nat) : Int).toNat).drop (i : Int).toNat = [b[i]] := by
  rw [Int.toNat_natCast, Int.toNat_natCast, List.drop_take, List.drop_eq_getElem_cons h, show i + 1 - i = 1 by omega]
  rfl
theorem rmerge_go (b : List Lot) (hb : b.length ≤ 200) : ∀ (n i : Nat) (out : List Lot), i + n = b.length → Sorted out → Pos out → out.length ≤ 64 →
    Ev (fun k => lombardref17_Merge.l0 k b out (i : Int)) (mergeS out (b.drop i))
  | 0, i, out, hi, so, po, lo => by
    rw [List.drop_of_length_le (by omega)]
    refine Ev.step (f := fun _ => some (out, 0)) (fun k => ?_) (Ev.now _)
    simp only [lombardref17_Merge.l0]
    rw [if_neg (by omega)]
  | n + 1, i, out, hi, so, po, lo => by
    have h : i < b.length := by omega
    rw [List.drop_eq_getElem_cons h]
    unfold mergeS
    refine Ev.step (f := fun k => lombardref17_Merge.l0 (k + 1) b out (i : Int)) (fun k => rfl) ?_
    have g : lombardref17_good.f b[i].f1 = some (decide (1 ≤ b[i].f1 ∧ b[i].f1 ≤ M)) := by
      unfold lombardref17_good.f M
      by_cases c : b[i].f1 ≥ 1
      · rw [if_pos c]
        by_cases d : b[i].f1 ≤ 1125899906842624
        · rw [decide_eq_true d, decide_eq_true ⟨c, d⟩]
        · rw [decide_eq_false d, decide_eq_false (fun z => d z.2)]
      · rw [if_neg c, decide_eq_false (fun z => c z.1)]
    simp only [lombardref17_Merge.l0, rd_at h, up h (by omega), g, Option.bind_some, if_pos (show (i : Int) < (b.length : Int) by omega), if_pos (show (0 : Int) ≤ (i : Int) by omega), if_pos (show (i : Int) ≤ ((i + 1 : Nat) : Int) by omega), if_pos (show ((i + 1 : Nat) : Int) ≤ (b.length : Int) by omega), cut_one h]
    by_cases c : 1 ≤ b[i].f1 ∧ b[i].f1 ≤ M
    · rw [decide_eq_true c, if_neg (fun z => z c)]
      simp only [if_true]
      have pb : Pos [b[i]] := fun y hy => by rw [List.mem_singleton.1 hy]; exact c
      have pl := rplus_ev (a := out) (b := [b[i]]) (by omega) (by simp) so po pb
      rw [plusS_one] at pl
      refine Ev.bind pl ?_
      by_cases d : (addS out b[i]).2 = 0
      · simp only [if_pos d]
        obtain ⟨s1, p1, l1, _⟩ := addS_ok so po lo c.1 c.2 d
        exact rmerge_go b hb n (i + 1) _ (by omega) s1 p1 l1
      · simp only [if_neg d]
        exact Ev.now _
    · rw [decide_eq_false c, if_pos c]
      simp only [Bool.false_eq_true, if_false]
      exact Ev.now _
end Go.Proofs.Ytjjemfbpodgihaa.Pure
