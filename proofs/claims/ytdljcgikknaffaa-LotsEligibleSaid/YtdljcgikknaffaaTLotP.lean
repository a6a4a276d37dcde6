/- Where a lot's number is, or would be. -/
import Derived.Test.YtdljcgikknaffaaINC
import Derived.Test.YtdljcgikknaffaaRI
import Derived.Test.YtdljcgikknaffaaTRankR
set_option linter.unusedVariables false
set_option linter.unusedSimpArgs false
namespace Go.Proofs.Ytdljcgikknaffaa.Pure
open Go Go.Ab Go.Proofs.Ytdljcgikknaffaa.R
set_option linter.unusedVariables false
theorem app24 {n : Nat} (h : n ≤ 3000000) : App 24 n := ⟨by unfold maxLen; omega, by omega⟩
theorem Insert_r {a : List api_Lot} {x : api_Lot} {n : Nat} (h1 : n ≤ a.length) (hb : a.length ≤ 1000000) : InsR Try.prog 57 2 api_Lot.enc a (n : Int) [x] (a.take n ++ x :: a.drop n) := by
  by_cases h : n < a.length
  · have := Con_insert_lt (rows := a.map api_Lot.enc) (x := api_Lot.enc x) (i := n) (by simpa using h) (by simp; omega) (enters_of Try.func57 (by kernel_rfl) rfl)
    unfold InsR
    rw [show (a.take n ++ x :: a.drop n).map api_Lot.enc = (a.map api_Lot.enc).take n ++ [api_Lot.enc x] ++ (a.map api_Lot.enc).drop n by simp [List.map_take, List.map_drop]]
    exact this
  · have e : n = a.length := by omega
    subst e
    have : slices_Insert_api_Lot_api_Lot_r a (a.length : Int) [x] (a ++ [x]) := by
      refine slices_Insert_api_Lot_api_Lot_of ?_
      unfold slices_Insert_api_Lot_api_Lot_w
      exact CutX.i ⟨by omega, by omega⟩ (Br.neg (by simp [lenM]) (Br.pos (by simp [lenM]) (App2.i (app24 (by simp; omega)) (Rt.i rfl))))
    rw [List.take_length, List.drop_length]
    exact this

/-! Where a number is, or would be. -/
theorem cmpB_lt {a b : ByteArray} : cmpB a b < 0 ↔ sLt a b := by
  unfold cmpB
  by_cases h : sLt a b
  · rw [if_pos h]; simp [h]
  · rw [if_neg h]; by_cases k : sLt b a
    · rw [if_pos k]; simp [h]
    · rw [if_neg k]; simp [h]
theorem cmpB_eq {a b : ByteArray} : cmpB a b = 0 ↔ a = b := by
  unfold cmpB
  by_cases h : sLt a b
  · rw [if_pos h]; exact ⟨fun e => (by cases e), fun e => (by subst e; exact absurd h (sLt_irrefl _))⟩
  · rw [if_neg h]; by_cases k : sLt b a
    · rw [if_pos k]; exact ⟨fun e => (by cases e), fun e => (by subst e; exact absurd k (sLt_irrefl _))⟩
    · rw [if_neg k]; exact ⟨fun _ => sLt_tri h k, fun _ => rfl⟩
theorem place_1_r (x : api_Lot) (s : ByteArray) : lots_place_1_r x s (cmpB x.ISIN s) := by
  refine lots_place_1_of ?_
  unfold lots_place_1_w
  exact ⟨_, Compare_string_r _ _, Rt.i rfl⟩
theorem bs_l {A B : List api_Lot} {s : ByteArray} (hA : ∀ y ∈ A, sLt y.ISIN s) (hB : ∀ y ∈ B, ¬ sLt y.ISIN s) (hl : (A ++ B).length ≤ 1000000) {Q : Int → Prop} (q : Q (A.length : Nat)) :
    ∀ (n i j : Nat), j - i ≤ n → i ≤ A.length → A.length ≤ j → j ≤ (A ++ B).length → slices_BinarySearchFunc_api_Lot_api_Lot_string_f59_L0 (A ++ B) s Q i j := by
  intro n
  induction n with
  | zero =>
    intro i j hn hi hj hjl
    have e : i = A.length := by omega
    refine slices_BinarySearchFunc_api_Lot_api_Lot_string_f59_l0 ?_
    unfold slices_BinarySearchFunc_api_Lot_api_Lot_string_f59_w0
    exact Br.neg (by omega) (Lf.i (by rw [e]; exact q))
  | succ n ih =>
    intro i j hn hi hj hjl
    refine slices_BinarySearchFunc_api_Lot_api_Lot_string_f59_l0 ?_
    unfold slices_BinarySearchFunc_api_Lot_api_Lot_string_f59_w0
    by_cases c : i < j
    · rw [half (i := i) (j := j) (by omega), show (((i + j) / 2 : Nat) : Int) + 1 = (((i + j) / 2 + 1 : Nat) : Int) by omega]
      have hk : (i + j) / 2 < (A ++ B).length := by omega
      refine Br.pos (by omega) (Num.n (by omega) ⟨(A ++ B)[(i + j) / 2], Got.i ⟨_, place_1_r _ _, Br.i (fun c1 => Num.n (by omega) ?_) (fun c1 => ?_)⟩ (by omega) (show (A ++ B)[(i + j) / 2]? = _ from List.getElem?_eq_getElem hk)⟩)
      · have c1 := cmpB_lt.1 c1
        have : (i + j) / 2 < A.length := Nat.lt_of_not_le fun h => by
          refine hB _ ?_ c1
          rw [List.getElem_append_right h]; exact List.getElem_mem _
        exact ih _ _ (by omega) (by omega) hj hjl
      · have c1 : ¬ sLt ((A ++ B)[(i + j) / 2]).ISIN s := fun h => c1 (cmpB_lt.2 h)
        have : A.length ≤ (i + j) / 2 := Nat.le_of_not_lt fun h => by
          refine c1 (hA _ ?_)
          rw [List.getElem_append_left h]; exact List.getElem_mem _
        exact ih _ _ (by omega) hi this (by omega)
    · have e : i = A.length := by omega
      exact Br.neg (by omega) (Lf.i (by rw [e]; exact q))
def hit (s : ByteArray) : List api_Lot → Bool
  | [] => false
  | y :: _ => decide (y.ISIN = s)
theorem place_r {A B : List api_Lot} {s : ByteArray} (hA : ∀ y ∈ A, sLt y.ISIN s) (hB : ∀ y ∈ B, ¬ sLt y.ISIN s) (hl : (A ++ B).length ≤ 1000000) : lots_place_r (A ++ B) s ((A.length : Nat), hit s B) := by
  refine lots_place_of ?_
  unfold lots_place_w
  refine ⟨((A.length : Nat), hit s B), slices_BinarySearchFunc_api_Lot_api_Lot_string_f59_of ?_, Rt.i rfl⟩
  unfold slices_BinarySearchFunc_api_Lot_api_Lot_string_f59_w
  rw [lenM_eq]
  refine bs_l hA hB hl ?_ (A ++ B).length 0 (A ++ B).length (by omega) (by omega) (by simp) (Nat.le_refl _)
  cases B with
  | nil => exact Br.neg (by simp) (Rt.i rfl)
  | cons y B =>
    refine Br.pos (by simp; omega) ⟨y, Got.i ⟨_, place_1_r _ _, Rt.i ?_⟩ (by omega) (by simp)⟩
    unfold hit
    congr 1
    rw [Bool.eq_iff_iff]
    simp [cmpB_eq]

end Go.Proofs.Ytdljcgikknaffaa.Pure
