-- a shortened text: what this claim does not name is left out (wip/xprint/prune.py of this repo)
import Derived.Test.YtjjemfbpodgihaaPLotD
import Derived.Test.YtjjemfbpodgihaaX9
import Derived.Test.YtjjemfbpodgihaaX10
namespace Go.Proofs.Ytjjemfbpodgihaa.PLot
open Go Go.RowKit Go.Proofs.Ytjjemfbpodgihaa.X Go.Proofs.YtjjemfbpodgihaaW.PrintWords Go.Proofs.YtjjemfbpodgihaaW.PrintLast Go.Proofs.YtjjemfbpodgihaaW.PrintMore
def cmpS (a b : Bs) : Int := if L a b then -1 else if L b a then 1 else 0
theorem cmp_eq (a b : ByteArray) : cmp_Compare_string.f a b = some (cmpS a.toList b.toList) := by
  unfold cmp_Compare_string.f cmp_isNaN_string.f cmpS
  simp only [Option.bind_some, bne_self_eq_false, Bool.false_eq_true, if_false]
  by_cases h1 : Op.bytesLess a.toList b.toList = true
  · rw [if_pos h1, if_pos (show L a.toList b.toList from h1)]
  · rw [if_neg h1, if_neg (show ¬ L a.toList b.toList from h1)]
    by_cases h2 : Op.bytesLess b.toList a.toList = true
    · rw [if_pos h2, if_pos (show L b.toList a.toList from h2)]
    · rw [if_neg h2, if_neg (show ¬ L b.toList a.toList from h2)]
theorem place1_eq (a : ByteArray) (q : Int) (b : ByteArray) : lots_place_1.f a q b = some (cmpS a.toList b.toList) := by
  unfold lots_place_1.f; rw [cmp_eq]; rfl
def PlaceAt (l : List Lot) (s : Bs) (i : Nat) : Prop := i ≤ l.length ∧ (∀ j (h : j < l.length), j < i → L (key l[j]) s) ∧ (∀ j (h : j < l.length), i ≤ j → ¬ L (key l[j]) s)
def Found (l : List Lot) (s : Bs) (i : Nat) : Prop := ∃ h : i < l.length, key l[i] = s
theorem search_go (l : List Lot) (hl : l.length ≤ 1000) (sl : Sorted l) (s : ByteArray) : ∀ (n lo hi : Nat), hi - lo ≤ n → lo ≤ hi → hi ≤ l.length → (∀ j (h : j < l.length), j < lo → L (key l[j]) s.toList) → (∀ j (h : j < l.length), hi ≤ j → ¬ L (key l[j]) s.toList) →
    ∃ i b, PlaceAt l s.toList i ∧ (b = true ↔ Found l s.toList i) ∧ Ev (fun k => slices_BinarySearchFunc_api_Lot_api_Lot_string.l0 k l s (l.length : Int) (lo : Int) (hi : Int)) ((i : Int), b) := by
  intro n
  induction n with
  | zero =>
    intro lo hi hn h1 h2 hA hB
    obtain rfl : lo = hi := by omega
    refine ⟨lo, decide (∃ h : lo < l.length, key l[lo] = s.toList), ⟨h2, hA, hB⟩, by simp [Found], ?_⟩
    refine Ev.step (f := fun k => slices_BinarySearchFunc_api_Lot_api_Lot_string.l0 (k + 1) l s (l.length : Int) (lo : Int) (lo : Int)) (fun k => rfl) ?_
    simp only [slices_BinarySearchFunc_api_Lot_api_Lot_string.l0, if_neg (show ¬ (lo : Int) < (lo : Int) by omega)]
    by_cases c : lo < l.length
    · simp only [if_pos (show (lo : Int) < (l.length : Int) by omega), if_pos (show (0 : Int) ≤ (lo : Int) by omega), rd_at c, place1_eq, Option.bind_some]
      have e : (cmpS l[lo].f0.toList s.toList == 0) = decide (∃ h : lo < l.length, key l[lo] = s.toList) := by
        unfold cmpS
        by_cases d : L l[lo].f0.toList s.toList
        · rw [if_pos d, decide_eq_false (fun ⟨_, e⟩ => L_ne d e)]; rfl
        · rw [if_neg d]
          by_cases d2 : L s.toList l[lo].f0.toList
          · rw [if_pos d2, decide_eq_false (fun ⟨_, e⟩ => L_ne d2 e.symm)]; rfl
          · rw [if_neg d2]
            rcases L_tri l[lo].f0.toList s.toList with z | z | z
            · exact absurd z d
            · rw [decide_eq_true ⟨c, z⟩]; rfl
            · exact absurd z d2
      rw [e]; exact Ev.now _
    · simp only [if_neg (show ¬ (lo : Int) < (l.length : Int) by omega)]
      rw [decide_eq_false (fun ⟨h, _⟩ => c h)]; exact Ev.now _
  | succ n ih =>
    intro lo hi hn h1 h2 hA hB
    by_cases c : lo < hi
    · have em : wrap64 (IntKind.u64.wrap (wrap64 ((lo : Int) + (hi : Int))) / 2) = (((lo + hi) / 2 : Nat) : Int) := by
        rw [w_id (x := (lo : Int) + hi) (by omega) (by omega), IntWalk.u64_in _ ⟨by omega, by omega⟩, w_id (by omega) (by omega)]; omega
      have hm : (lo + hi) / 2 < l.length := by omega
      have e1 : wrap64 ((((lo + hi) / 2 : Nat) : Int) + 1) = (((lo + hi) / 2 + 1 : Nat) : Int) := by rw [w_id (by omega) (by omega)]; omega
      by_cases d : L l[(lo + hi) / 2].f0.toList s.toList
      · obtain ⟨i, b, p, q, r⟩ := ih ((lo + hi) / 2 + 1) hi (by omega) (by omega) h2 (fun j h hj => by
          rcases Nat.lt_or_ge j ((lo + hi) / 2) with z | z
          · exact L_trans (List.pairwise_iff_getElem.1 sl j _ h hm z) d
          · obtain rfl : j = (lo + hi) / 2 := by omega
            exact d) hB
        refine ⟨i, b, p, q, Ev.step (fun k => ?_) r⟩
        simp only [slices_BinarySearchFunc_api_Lot_api_Lot_string.l0, em, rd_at hm, place1_eq, Option.bind_some, e1]
        rw [if_pos (by omega), if_pos (by omega), if_pos (by omega), if_pos (by unfold cmpS; rw [if_pos d]; decide)]
      · obtain ⟨i, b, p, q, r⟩ := ih lo ((lo + hi) / 2) (by omega) (by omega) (by omega) hA (fun j h hj => by
          rcases Nat.lt_or_ge ((lo + hi) / 2) j with z | z
          · exact fun w => d (L_trans (List.pairwise_iff_getElem.1 sl _ j hm h z) w)
          · obtain rfl : j = (lo + hi) / 2 := by omega
            exact d)
        refine ⟨i, b, p, q, Ev.step (fun k => ?_) r⟩
        simp only [slices_BinarySearchFunc_api_Lot_api_Lot_string.l0, em, rd_at hm, place1_eq, Option.bind_some]
        rw [if_pos (by omega), if_pos (by omega), if_pos (by omega), if_neg (by unfold cmpS; rw [if_neg d]; split <;> decide)]
    · exact ih lo hi (by omega) h1 h2 hA hB
theorem place_ev {l : List Lot} (hl : l.length ≤ 1000) (sl : Sorted l) (s : ByteArray) : ∃ i b, PlaceAt l s.toList i ∧ (b = true ↔ Found l s.toList i) ∧ Ev (fun k => lots_place.f k l s) ((i : Int), b) := by
  obtain ⟨i, b, p, q, r⟩ := search_go l hl sl s l.length 0 l.length (by omega) (by omega) (by omega) (fun j h hj => by omega) (fun j h hj => by omega)
  exact ⟨i, b, p, q, Ev.bind r (Ev.now _)⟩
theorem found_qty {l : List Lot} (sl : Sorted l) {s : Bs} {i : Nat} (f : Found l s i) : ∃ h : i < l.length, qty l s = l[i].f1 ∧ key l[i] = s := by
  obtain ⟨h, e⟩ := f
  exact ⟨h, by rw [← e]; exact qty_mem sl (List.getElem_mem h), e⟩
theorem lost_qty {l : List Lot} (sl : Sorted l) {s : Bs} {i : Nat} (p : PlaceAt l s i) (f : ¬ Found l s i) : qty l s = 0 := qty_zero fun x hx e => by
  obtain ⟨j, hj, rfl⟩ := List.mem_iff_getElem.1 hx
  rcases Nat.lt_or_ge j i with z | z
  · exact L_ne (p.2.1 j hj z) e
  · rcases Nat.lt_or_ge i j with y | y
    · have := List.pairwise_iff_getElem.1 sl i j (by omega) hj y
      rw [e] at this
      exact p.2.2 i (by omega) (Nat.le_refl _) this
    · obtain rfl : i = j := by omega
      exact f ⟨hj, e⟩
end Go.Proofs.Ytjjemfbpodgihaa.PLot
