/- Lots put together: the program's and the reference's. -/
import Derived.Test.YtfommamkaaggjaaINC
import Derived.Test.YtfommamkaaggjaaRI
import Derived.Test.YtfommamkaaggjaaTOwedB
import Derived.Test.YtfommamkaaggjaaTCloneL
import Derived.Test.YtfommamkaaggjaaDE0
set_option linter.unusedVariables false
set_option linter.unusedSimpArgs false
namespace Go.Proofs.Ytfommamkaaggjaa.Pure
open Go Go.Ab Go.Proofs.Ytfommamkaaggjaa.R
set_option linter.unusedVariables false
theorem app24 {n : Nat} (h : n ≤ 3000000) : App 24 n := ⟨by unfold maxLen; omega, by omega⟩
theorem Insert_r {a : List api_Lot} {x : api_Lot} {n : Nat} (h1 : n ≤ a.length) (hb : a.length ≤ 1000000) : InsR Try.prog 48 2 api_Lot.enc a (n : Int) [x] (a.take n ++ x :: a.drop n) := by
  by_cases h : n < a.length
  · have := Con_insert_lt (rows := a.map api_Lot.enc) (x := api_Lot.enc x) (i := n) (by simpa using h) (by simp; omega) (enters_of Try.func48 (by kernel_rfl) rfl)
    unfold InsR
    rw [show (a.take n ++ x :: a.drop n).map api_Lot.enc = (a.map api_Lot.enc).take n ++ [api_Lot.enc x] ++ (a.map api_Lot.enc).drop n by simp [List.map_take, List.map_drop]]
    exact this
  · have e : n = a.length := by omega
    subst e
    have : slices_Insert_api_Lot_api_Lot_r a (a.length : Int) [x] (a ++ [x]) := by
      refine slices_Insert_api_Lot_api_Lot_of ?_
      unfold slices_Insert_api_Lot_api_Lot_w
      exact CutX.i ⟨by omega, by omega⟩ (Br.neg (by simp [lenM]) (Br.pos (by simp [lenM]) (App2.i (app24 (by simp; omega)) (Rt.i rfl))))
    rw [List.take_length, List.drop_length]
    exact this

/-! Where a number is, or would be. -/
theorem cmpB_lt {a b : ByteArray} : cmpB a b < 0 ↔ sLt a b := by
  unfold cmpB
  by_cases h : sLt a b
  · rw [if_pos h]; simp [h]
  · rw [if_neg h]; by_cases k : sLt b a
    · rw [if_pos k]; simp [h]
    · rw [if_neg k]; simp [h]
theorem cmpB_eq {a b : ByteArray} : cmpB a b = 0 ↔ a = b := by
  unfold cmpB
  by_cases h : sLt a b
  · rw [if_pos h]; exact ⟨fun e => (by cases e), fun e => (by subst e; exact absurd h (sLt_irrefl _))⟩
  · rw [if_neg h]; by_cases k : sLt b a
    · rw [if_pos k]; exact ⟨fun e => (by cases e), fun e => (by subst e; exact absurd k (sLt_irrefl _))⟩
    · rw [if_neg k]; exact ⟨fun _ => sLt_tri h k, fun _ => rfl⟩
theorem place_1_r (x : api_Lot) (s : ByteArray) : lots_place_1_r x s (cmpB x.ISIN s) := by
  refine lots_place_1_of ?_
  unfold lots_place_1_w
  exact ⟨_, Compare_string_r _ _, Rt.i rfl⟩
theorem bs_l {A B : List api_Lot} {s : ByteArray} (hA : ∀ y ∈ A, sLt y.ISIN s) (hB : ∀ y ∈ B, ¬ sLt y.ISIN s) (hl : (A ++ B).length ≤ 1000000) {Q : Int → Prop} (q : Q (A.length : Nat)) :
    ∀ (n i j : Nat), j - i ≤ n → i ≤ A.length → A.length ≤ j → j ≤ (A ++ B).length → slices_BinarySearchFunc_api_Lot_api_Lot_string_f50_L0 (A ++ B) s Q i j := by
  intro n
  induction n with
  | zero =>
    intro i j hn hi hj hjl
    have e : i = A.length := by omega
    refine slices_BinarySearchFunc_api_Lot_api_Lot_string_f50_l0 ?_
    unfold slices_BinarySearchFunc_api_Lot_api_Lot_string_f50_w0
    exact Br.neg (by omega) (Lf.i (by rw [e]; exact q))
  | succ n ih =>
    intro i j hn hi hj hjl
    refine slices_BinarySearchFunc_api_Lot_api_Lot_string_f50_l0 ?_
    unfold slices_BinarySearchFunc_api_Lot_api_Lot_string_f50_w0
    by_cases c : i < j
    · rw [half (i := i) (j := j) (by omega), show (((i + j) / 2 : Nat) : Int) + 1 = (((i + j) / 2 + 1 : Nat) : Int) by omega]
      have hk : (i + j) / 2 < (A ++ B).length := by omega
      refine Br.pos (by omega) (Num.n (by omega) ⟨(A ++ B)[(i + j) / 2], Got.i ⟨_, place_1_r _ _, Br.i (fun c1 => Num.n (by omega) ?_) (fun c1 => ?_)⟩ (by omega) (show (A ++ B)[(i + j) / 2]? = _ from List.getElem?_eq_getElem hk)⟩)
      · have c1 := cmpB_lt.1 c1
        have : (i + j) / 2 < A.length := Nat.lt_of_not_le fun h => by
          refine hB _ ?_ c1
          rw [List.getElem_append_right h]; exact List.getElem_mem _
        exact ih _ _ (by omega) (by omega) hj hjl
      · have c1 : ¬ sLt ((A ++ B)[(i + j) / 2]).ISIN s := fun h => c1 (cmpB_lt.2 h)
        have : A.length ≤ (i + j) / 2 := Nat.le_of_not_lt fun h => by
          refine c1 (hA _ ?_)
          rw [List.getElem_append_left h]; exact List.getElem_mem _
        exact ih _ _ (by omega) hi this (by omega)
    · have e : i = A.length := by omega
      exact Br.neg (by omega) (Lf.i (by rw [e]; exact q))
def hit (s : ByteArray) : List api_Lot → Bool
  | [] => false
  | y :: _ => decide (y.ISIN = s)
theorem place_r {A B : List api_Lot} {s : ByteArray} (hA : ∀ y ∈ A, sLt y.ISIN s) (hB : ∀ y ∈ B, ¬ sLt y.ISIN s) (hl : (A ++ B).length ≤ 1000000) : lots_place_r (A ++ B) s ((A.length : Nat), hit s B) := by
  refine lots_place_of ?_
  unfold lots_place_w
  refine ⟨((A.length : Nat), hit s B), slices_BinarySearchFunc_api_Lot_api_Lot_string_f50_of ?_, Rt.i rfl⟩
  unfold slices_BinarySearchFunc_api_Lot_api_Lot_string_f50_w
  rw [lenM_eq]
  refine bs_l hA hB hl ?_ (A ++ B).length 0 (A ++ B).length (by omega) (by omega) (by simp) (Nat.le_refl _)
  cases B with
  | nil => exact Br.neg (by simp) (Rt.i rfl)
  | cons y B =>
    refine Br.pos (by simp; omega) ⟨y, Got.i ⟨_, place_1_r _ _, Rt.i ?_⟩ (by omega) (by simp)⟩
    unfold hit
    congr 1
    rw [Bool.eq_iff_iff]
    simp [cmpB_eq]

/-! The reference's. -/
def qtyG (s : ByteArray) : List api_Lot → Int
  | [] => 0
  | y :: l => if y.ISIN = s then y.Qty else qtyG s l
theorem qty_l {a : List api_Lot} {s : ByteArray} {Q0 : Int → Prop} {Q1 : Unit → Prop} (hl : a.length ≤ 1000000) : ∀ (n i : Nat), n + i = a.length → (∀ r, r = qtyG s (a.drop i) → (∃ y ∈ a.drop i, y.ISIN = s) → Q0 r) → ((∀ y ∈ a.drop i, y.ISIN ≠ s) → Q1 ()) → lombardref17_Qty_L0 a s Q0 Q1 (i : Int) := by
  intro n
  induction n with
  | zero =>
    intro i h q0 q1
    refine lombardref17_Qty_l0 ?_
    unfold lombardref17_Qty_w0
    rw [lenM_eq]
    exact Br.neg (by omega) (Lf.i (q1 (by rw [List.drop_of_length_le (by omega)]; simp)))
  | succ n ih =>
    intro i h q0 q1
    have hs : i < a.length := by omega
    refine lombardref17_Qty_l0 ?_
    unfold lombardref17_Qty_w0
    rw [lenM_eq]
    rw [List.drop_eq_getElem_cons hs] at q0 q1
    have g : a[(i : Int).toNat]? = some a[i] := by simp [hs]
    refine Br.pos (by omega) ⟨a[i], Got.i (Br.i (fun c => Got.i (Lf.i (q0 _ (by simp [qtyG, c]) ⟨_, List.mem_cons_self .., c⟩)) (by omega) g) (fun c => Num.n (by omega) ?_)) (by omega) g⟩
    refine ih (i + 1) (by omega) (fun r hr ⟨y, hy, he⟩ => q0 r (by simp only [qtyG]; rw [if_neg c]; exact hr) ⟨y, List.mem_cons_of_mem _ hy, he⟩) (fun hy => q1 fun y hm => ?_)
    rcases List.mem_cons.1 hm with rfl | hm
    · exact c
    · exact hy y hm
theorem qtyG_none {s : ByteArray} : ∀ {l : List api_Lot}, (∀ y ∈ l, y.ISIN ≠ s) → qtyG s l = 0
  | [], _ => rfl
  | y :: l, h => by simp only [qtyG]; rw [if_neg (h y (by simp))]; exact qtyG_none fun z hz => h z (by simp [hz])
theorem Qty_r {a : List api_Lot} {s : ByteArray} (hl : a.length ≤ 1000000) : lombardref17_Qty_r a s (qtyG s a) := by
  refine lombardref17_Qty_of ?_
  unfold lombardref17_Qty_w
  refine qty_l hl a.length 0 (by omega) (fun r hr _ => Rt.i (by rw [hr]; simp)) (fun h => Rt.i ?_)
  rw [qtyG_none (by simpa using h)]
def setG (s : ByteArray) (q : Int) : Bool → List api_Lot → List api_Lot
  | true, [] => []
  | false, [] => [⟨s, q⟩]
  | true, y :: l => (if y.ISIN = s then [] else [y]) ++ setG s q true l
  | false, y :: l => if sLt y.ISIN s then (if y.ISIN = s then [] else [y]) ++ setG s q false l else ⟨s, q⟩ :: ((if y.ISIN = s then [] else [y]) ++ setG s q true l)
theorem set_l {a : List api_Lot} {s : ByteArray} {q : Int} {R : List api_Lot} {Q : List api_Lot → Prop} (hl : a.length ≤ 1000000) (hQ : Q R) : ∀ (n i : Nat) (d : Bool) (acc : List api_Lot), n + i = a.length → acc.length ≤ i + d.toNat → R = acc ++ setG s q d (a.drop i) →
    lombardref17_Set_L0 a s q (fun (y1 : Bool × (List api_Lot)) => Br (!y1.1) (App2 24 api_Lot.enc y1.2 [(⟨s, q⟩ : api_Lot)] (Q (y1.2 ++ [(⟨s, q⟩ : api_Lot)]))) (Q y1.2)) d (i : Int) acc := by
  intro n
  induction n with
  | zero =>
    intro i d acc h ha hR
    have hd : d.toNat ≤ 1 := by cases d <;> decide
    refine lombardref17_Set_l0 ?_
    unfold lombardref17_Set_w0
    rw [lenM_eq]
    rw [List.drop_of_length_le (by omega)] at hR
    refine Br.neg (by omega) (Lf.i ?_)
    cases d with
    | true => exact Br.f rfl (by rw [hR] at hQ; simpa [setG] using hQ)
    | false => exact Br.t rfl (App2.i (app24 (by simp; omega)) (by rw [hR] at hQ; simpa [setG] using hQ))
  | succ n ih =>
    intro i d acc h ha hR
    have hd : d.toNat ≤ 1 := by cases d <;> decide
    have hs : i < a.length := by omega
    refine lombardref17_Set_l0 ?_
    unfold lombardref17_Set_w0
    rw [lenM_eq]
    rw [List.drop_eq_getElem_cons hs] at hR
    have g : a[(i : Int).toNat]? = some a[i] := by simp [hs]
    refine Br.pos (by omega) ?_
    cases d with
    | true =>
      simp only [setG] at hR
      simp only [Bool.toNat_true] at ha
      refine Br.f rfl ⟨a[i], Got.i (Br.i (fun c => Got.i (App2.i (app24 (by simp; omega)) (Num.n (by omega) (ih (i + 1) true _ (by omega) (by simp; omega) ?_))) (by omega) g) (fun c => Num.n (by omega) (ih (i + 1) true _ (by omega) (by omega) ?_))) (by omega) g⟩
      · rw [hR, if_neg c]; simp
      · rw [hR, if_pos (Decidable.not_not.1 c)]; simp
    | false =>
      simp only [setG] at hR
      simp only [Bool.toNat_false] at ha
      refine Br.t rfl ⟨a[i], Got.i (Br.i (fun c0 => ?_) (fun c0 => ?_)) (by omega) g⟩
      · rw [if_neg c0] at hR
        refine App2.i (app24 (by simp; omega)) (Got.i (Br.i (fun c => Got.i (App2.i (app24 (by simp; omega)) (Num.n (by omega) (ih (i + 1) true _ (by omega) (by simp; omega) ?_))) (by omega) g) (fun c => Num.n (by omega) (ih (i + 1) true _ (by omega) (by simp; omega) ?_))) (by omega) g)
        · rw [hR, if_neg c]; simp
        · rw [hR, if_pos (Decidable.not_not.1 c)]; simp
      · rw [if_pos (Decidable.not_not.1 c0)] at hR
        refine Got.i (Br.i (fun c => Got.i (App2.i (app24 (by simp; omega)) (Num.n (by omega) (ih (i + 1) false _ (by omega) (by simp; omega) ?_))) (by omega) g) (fun c => Num.n (by omega) (ih (i + 1) false _ (by omega) (by omega) ?_))) (by omega) g
        · rw [hR, if_neg c]; simp
        · rw [hR, if_pos (Decidable.not_not.1 c)]; simp
theorem Set_r {a : List api_Lot} {s : ByteArray} {q : Int} (hl : a.length ≤ 1000000) : lombardref17_Set_r a s q (setG s q (q == 0) a) := by
  refine lombardref17_Set_of ?_
  unfold lombardref17_Set_w
  exact set_l (Q := fun v => lombardref17_Set_e (fun v_ => v_ = setG s q (q == 0) a) v) hl (Rt.i rfl) a.length 0 _ [] (by omega) (by simp) (by simp)
end Go.Proofs.Ytfommamkaaggjaa.Pure
namespace Go.Proofs.Ytfommamkaaggjaa.Pure
open Go Go.Ab Go.Proofs.Ytfommamkaaggjaa.R
set_option linter.unusedVariables false
structure Lk (l : List api_Lot) : Prop where
  srt : l.Pairwise (fun x y => sLt x.ISIN y.ISIN)
  pos : ∀ y ∈ l, 1 ≤ y.Qty ∧ y.Qty ≤ 1125899906842624
  len : l.length ≤ 64
theorem split_at (s : ByteArray) : ∀ (l : List api_Lot), l.Pairwise (fun x y => sLt x.ISIN y.ISIN) → ∃ A B, l = A ++ B ∧ (∀ y ∈ A, sLt y.ISIN s) ∧ (∀ y ∈ B, ¬ sLt y.ISIN s)
  | [], _ => ⟨[], [], rfl, by simp, by simp⟩
  | y :: l, h => by
    obtain ⟨h1, h2⟩ := List.pairwise_cons.1 h
    by_cases c : sLt y.ISIN s
    · obtain ⟨A, B, e, hA, hB⟩ := split_at s l h2
      refine ⟨y :: A, B, by rw [e]; rfl, fun z hz => ?_, hB⟩
      rcases List.mem_cons.1 hz with rfl | hz
      · exact c
      · exact hA z hz
    · refine ⟨[], y :: l, rfl, by simp, fun z hz => ?_⟩
      rcases List.mem_cons.1 hz with rfl | hz
      · exact c
      · exact fun k => c (sLt_trans (h1 z hz) k)
theorem setG_A {s : ByteArray} {q : Int} {B : List api_Lot} : ∀ {A : List api_Lot}, (∀ y ∈ A, sLt y.ISIN s) → setG s q false (A ++ B) = A ++ setG s q false B
  | [], _ => rfl
  | y :: A, h => by
    have hy := h y (by simp)
    have : y.ISIN ≠ s := fun e => by rw [e] at hy; exact sLt_irrefl _ hy
    simp only [List.cons_append, setG]
    rw [if_pos hy, if_neg this, setG_A fun z hz => h z (by simp [hz])]; rfl
theorem setG_B {s : ByteArray} {q : Int} : ∀ {B : List api_Lot}, (∀ y ∈ B, y.ISIN ≠ s) → setG s q true B = B
  | [], _ => rfl
  | y :: B, h => by
    simp only [setG]
    rw [if_neg (h y (by simp)), setG_B fun z hz => h z (by simp [hz])]; rfl
theorem qtyG_A {s : ByteArray} {B : List api_Lot} : ∀ {A : List api_Lot}, (∀ y ∈ A, sLt y.ISIN s) → qtyG s (A ++ B) = qtyG s B
  | [], _ => rfl
  | y :: A, h => by
    have hy := h y (by simp)
    have : y.ISIN ≠ s := fun e => by rw [e] at hy; exact sLt_irrefl _ hy
    simp only [List.cons_append, qtyG]
    rw [if_neg this]; exact qtyG_A fun z hz => h z (by simp [hz])
theorem gone_B {s : ByteArray} {y : api_Lot} {B : List api_Lot} (h : (y :: B).Pairwise (fun x y => sLt x.ISIN y.ISIN)) (hy : ¬ sLt y.ISIN s) : ∀ z ∈ B, z.ISIN ≠ s := fun z hz e => by
  have := (List.pairwise_cons.1 h).1 z hz
  rw [e] at this; exact hy this
def addG (l : List api_Lot) (x : api_Lot) : List api_Lot × Int :=
  if qtyG x.ISIN l = 0 ∧ 64 ≤ l.length then ([], 2) else if 1125899906842624 - qtyG x.ISIN l < x.Qty then ([], 9) else (setG x.ISIN (qtyG x.ISIN l + x.Qty) false l, 0)
/-- What adding one comes to, where it stands or would stand. -/
theorem add_cases {l : List api_Lot} {x : api_Lot} (h : Lk l) : ∃ A B, l = A ++ B ∧ (∀ y ∈ A, sLt y.ISIN x.ISIN) ∧ (∀ y ∈ B, ¬ sLt y.ISIN x.ISIN) ∧
    ((hit x.ISIN B = false ∧ qtyG x.ISIN l = 0 ∧ ∀ q, setG x.ISIN q false l = A ++ ⟨x.ISIN, q⟩ :: B) ∨ (∃ y B', B = y :: B' ∧ hit x.ISIN B = true ∧ y.ISIN = x.ISIN ∧ qtyG x.ISIN l = y.Qty ∧ ∀ q, setG x.ISIN q false l = A ++ ⟨x.ISIN, q⟩ :: B')) := by
  obtain ⟨A, B, e, hA, hB⟩ := split_at x.ISIN l h.srt
  refine ⟨A, B, e, hA, hB, ?_⟩
  have hs := h.srt
  rw [e] at hs
  have hsB := (List.pairwise_append.1 hs).2.1
  rw [e, qtyG_A hA]
  cases B with
  | nil => exact .inl ⟨rfl, rfl, fun q => by rw [setG_A hA]; rfl⟩
  | cons y B =>
    have hy := hB y (by simp)
    have hz := gone_B hsB hy
    by_cases c : y.ISIN = x.ISIN
    · refine .inr ⟨y, B, rfl, by simp [hit, c], c, by simp [qtyG, c], fun q => ?_⟩
      rw [setG_A hA]; simp only [setG]; rw [if_neg hy, if_pos c, setG_B hz]; rfl
    · refine .inl ⟨by simp [hit, c], ?_, fun q => ?_⟩
      · simp only [qtyG]; rw [if_neg c, qtyG_none hz]
      · rw [setG_A hA]; simp only [setG]; rw [if_neg hy, if_neg c, setG_B hz]; rfl
theorem add_r {l : List api_Lot} {x : api_Lot} (h : Lk l) (hx : 1 ≤ x.Qty ∧ x.Qty ≤ 1125899906842624) : lots_add_r l x (addG l x) := by
  have hl := h.len
  obtain ⟨A, B, e, hA, hB, hc⟩ := add_cases (x := x) h
  refine lots_add_of ?_
  unfold lots_add_w addG
  have hp := place_r hA hB (by rw [← e]; omega)
  rw [← e] at hp
  refine ⟨_, hp, ?_⟩
  rw [lenM_eq]
  rcases hc with ⟨c1, c2, c3⟩ | ⟨y, B', rfl, c1, c4, c2, c3⟩
  · refine Br.t (by simp [c1]) (Br.i (fun c => Rt.i (by rw [if_pos ⟨c2, by omega⟩])) (fun c => ⟨_, Insert_r (n := A.length) (by rw [e]; simp) (by omega), Rt.i ?_⟩))
    rw [if_neg (by omega), c2, if_neg (by omega), c3, e, Int.zero_add]
    simp
  · have hy := h.pos y (by rw [e]; simp)
    have ha : A.length < l.length := by rw [e]; simp
    have g : l[((A.length : Nat) : Int).toNat]? = some y := by rw [e]; simp
    refine Br.f (by simp [c1]) (InL.i ⟨y, EltG.i (Num.n (by omega) (Br.i (fun c => Rt.i ?_) (fun c => InL.i (EltG.i (Num.n (by omega) (InL.i (EltS.i (Rt.i ?_) g) (by omega) (by simpa using ha))) g) (by omega) (by simpa using ha)))) g⟩ (by omega) (by simpa using ha))
    · rw [if_neg (by omega), c2, if_pos (by omega)]
    · rw [if_neg (by omega), c2, if_neg (by omega), c3, e, c4]
      simp
theorem add_ok {l : List api_Lot} {x : api_Lot} (h : Lk l) (hx : 1 ≤ x.Qty ∧ x.Qty ≤ 1125899906842624) (h0 : (addG l x).2 = 0) : Lk (addG l x).1 := by
  have hl := h.len
  obtain ⟨A, B, e, hA, hB, hc⟩ := add_cases (x := x) h
  have hs := h.srt
  rw [e] at hs
  obtain ⟨sA, sB, sAB⟩ := List.pairwise_append.1 hs
  unfold addG at h0 ⊢
  split at h0
  · cases h0
  · rename_i n1
    split at h0
    · cases h0
    · rename_i n2
      rw [if_neg n1, if_neg n2]
      rcases hc with ⟨c1, c2, c3⟩ | ⟨y, B', rfl, c1, c4, c2, c3⟩
      · have n1 : ¬ 64 ≤ l.length := fun k => n1 ⟨c2, k⟩
        rw [c3, c2, Int.zero_add]
        refine ⟨List.pairwise_append.2 ⟨sA, List.pairwise_cons.2 ⟨fun z hz => ?_, sB⟩, fun a ha z hz => ?_⟩, fun z hz => ?_, ?_⟩
        · cases B with
          | nil => cases hz
          | cons b B =>
            have hb := hB b (by simp)
            have nb : b.ISIN ≠ x.ISIN := by simpa [hit] using c1
            have xb : sLt x.ISIN b.ISIN := Decidable.byContradiction fun k => nb (sLt_tri hb k)
            rcases List.mem_cons.1 hz with rfl | hz
            · exact xb
            · exact sLt_trans xb ((List.pairwise_cons.1 sB).1 z hz)
        · rcases List.mem_cons.1 hz with rfl | hz
          · exact hA a ha
          · exact sAB a ha z hz
        · rcases List.mem_append.1 hz with hz | hz
          · exact h.pos z (by rw [e]; simp [hz])
          · rcases List.mem_cons.1 hz with rfl | hz
            · exact hx
            · exact h.pos z (by rw [e]; simp [hz])
        · have : l.length = A.length + B.length := by rw [e]; simp
          simp; omega
      · have hy := h.pos y (by rw [e]; simp)
        rw [c3, c2]
        refine ⟨List.pairwise_append.2 ⟨sA, List.pairwise_cons.2 ⟨fun z hz => ?_, (List.pairwise_cons.1 sB).2⟩, fun a ha z hz => ?_⟩, fun z hz => ?_, ?_⟩
        · have := (List.pairwise_cons.1 sB).1 z hz
          rw [c4] at this; exact this
        · rcases List.mem_cons.1 hz with rfl | hz
          · exact hA a ha
          · exact sAB a ha z (by simp [hz])
        · rcases List.mem_append.1 hz with hz | hz
          · exact h.pos z (by rw [e]; simp [hz])
          · rcases List.mem_cons.1 hz with rfl | hz
            · simp; omega
            · exact h.pos z (by rw [e]; simp [hz])
        · have : l.length = A.length + (B'.length + 1) := by rw [e]; simp
          simp; omega
theorem qtyG_bd {s : ByteArray} : ∀ {l : List api_Lot}, (∀ y ∈ l, 1 ≤ y.Qty ∧ y.Qty ≤ 1125899906842624) → 0 ≤ qtyG s l ∧ qtyG s l ≤ 1125899906842624
  | [], _ => by simp [qtyG]
  | y :: l, h => by
    simp only [qtyG]
    have := h y (by simp)
    split
    · omega
    · exact qtyG_bd fun z hz => h z (by simp [hz])
end Go.Proofs.Ytfommamkaaggjaa.Pure
namespace Go.Proofs.Ytfommamkaaggjaa.Pure
open Go Go.Ab Go.Proofs.Ytfommamkaaggjaa.R
set_option linter.unusedVariables false
def Ql (b : List api_Lot) : Prop := ∀ x ∈ b, 1 ≤ x.Qty ∧ x.Qty ≤ 1125899906842624
def plusG : List api_Lot → List api_Lot → List api_Lot × Int
  | a, [] => (a, 0)
  | a, x :: b => if (addG a x).2 = 0 then plusG (addG a x).1 b else ([], (addG a x).2)
theorem plus_ok : ∀ (b a : List api_Lot), Lk a → Ql b → (plusG a b).2 = 0 → Lk (plusG a b).1
  | [], a, h, _, _ => h
  | x :: b, a, h, hq, h0 => by
    unfold plusG at h0 ⊢
    split at h0
    · rename_i c
      rw [if_pos c]
      exact plus_ok b _ (add_ok h (hq x (by simp)) c) (fun y hy => hq y (by simp [hy])) h0
    · rename_i c; exact absurd h0 c
theorem plus_l {b : List api_Lot} (hl : b.length ≤ 1000000) (hq : Ql b) {Q0 : Int → Prop} {Q1 : List api_Lot → Prop} : ∀ (n i : Nat) (a : List api_Lot), n + i = b.length → Lk a → (∀ e, e ≠ 0 → plusG a (b.drop i) = ([], e) → Q0 e) → (∀ r, plusG a (b.drop i) = (r, 0) → Q1 r) → lots_Plus_L0 b Q0 Q1 (i : Int) a := by
  intro n
  induction n with
  | zero =>
    intro i a h ha q0 q1
    refine lots_Plus_l0 ?_
    unfold lots_Plus_w0
    rw [lenM_eq]
    rw [List.drop_of_length_le (by omega)] at q1
    exact Br.neg (by omega) (Lf.i (q1 a rfl))
  | succ n ih =>
    intro i a h ha q0 q1
    have hi : i < b.length := by omega
    refine lots_Plus_l0 ?_
    unfold lots_Plus_w0
    rw [lenM_eq]
    rw [List.drop_eq_getElem_cons hi] at q0 q1
    have hx := hq b[i] (List.getElem_mem hi)
    have g : b[(i : Int).toNat]? = some b[i] := by simp [hi]
    refine Br.pos (by omega) ⟨b[i], Got.i ⟨_, add_r ha hx, Br.i (fun c => Lf.i (q0 _ c ?_)) (fun c => Num.n (by omega) ?_)⟩ (by omega) g⟩
    · unfold plusG; rw [if_neg c]
    · have c := Decidable.not_not.1 c
      refine ih (i + 1) _ (by omega) (add_ok ha hx c) (fun e he hp => q0 e he ?_) (fun r hp => q1 r ?_)
      · unfold plusG; rw [if_pos c]; exact hp
      · unfold plusG; rw [if_pos c]; exact hp
theorem Plus_r {a b : List api_Lot} (ha : Lk a) (hl : b.length ≤ 1000000) (hq : Ql b) : lots_Plus_r a b (plusG a b) := by
  refine lots_Plus_of ?_
  unfold lots_Plus_w
  refine ⟨_, Clone32_r (by have := ha.len; omega), plus_l hl hq b.length 0 a (by omega) ha (fun e _ hp => Rt.i ?_) (fun r hp => Rt.i ?_)⟩
  · rw [List.drop_zero] at hp; exact hp.symm
  · rw [List.drop_zero] at hp; exact hp.symm
theorem rplus_l {b : List api_Lot} (hl : b.length ≤ 1000000) (hq : Ql b) {Q0 : Int → Prop} {Q1 : List api_Lot → Prop} : ∀ (n i : Nat) (a : List api_Lot), n + i = b.length → Lk a → (∀ e, e ≠ 0 → plusG a (b.drop i) = ([], e) → Q0 e) → (∀ r, plusG a (b.drop i) = (r, 0) → Q1 r) → lombardref17_Plus_L0 b Q0 Q1 a (i : Int) := by
  intro n
  induction n with
  | zero =>
    intro i a h ha q0 q1
    refine lombardref17_Plus_l0 ?_
    unfold lombardref17_Plus_w0
    rw [lenM_eq]
    rw [List.drop_of_length_le (by omega)] at q1
    exact Br.neg (by omega) (Lf.i (q1 a rfl))
  | succ n ih =>
    intro i a h ha q0 q1
    have hi : i < b.length := by omega
    refine lombardref17_Plus_l0 ?_
    unfold lombardref17_Plus_w0
    rw [lenM_eq, lenM_eq]
    rw [List.drop_eq_getElem_cons hi] at q0 q1
    have hx := hq b[i] (List.getElem_mem hi)
    have g : b[(i : Int).toNat]? = some b[i] := by simp [hi]
    have z : (0 : Int) ≤ (i : Int) := by omega
    have al := ha.len
    have qb := qtyG_bd (s := b[i].ISIN) ha.pos
    have S := Set_r (a := a) (s := b[i].ISIN) (q := qtyG b[i].ISIN a + b[i].Qty) (by omega)
    rw [beq_false_of_ne (by omega : qtyG b[i].ISIN a + b[i].Qty ≠ 0)] at S
    have over : ¬ (qtyG b[i].ISIN a = 0 ∧ 64 ≤ a.length) → 1125899906842624 - qtyG b[i].ISIN a < b[i].Qty → Q0 9 := fun c1 c2 => q0 9 (by decide) (by
      have e : addG a b[i] = ([], 9) := by unfold addG; rw [if_neg c1, if_pos c2]
      unfold plusG; rw [e]; rfl)
    have okk : ¬ (qtyG b[i].ISIN a = 0 ∧ 64 ≤ a.length) → ¬ 1125899906842624 - qtyG b[i].ISIN a < b[i].Qty → lombardref17_Plus_L0 b Q0 Q1 (setG b[i].ISIN (qtyG b[i].ISIN a + b[i].Qty) false a) ((i : Int) + 1) := fun c1 c2 => by
      have e : addG a b[i] = (setG b[i].ISIN (qtyG b[i].ISIN a + b[i].Qty) false a, 0) := by unfold addG; rw [if_neg c1, if_neg c2]
      have e0 : (addG a b[i]).2 = 0 := by rw [e]
      have hn := add_ok ha hx e0
      have := ih (i + 1) (addG a b[i]).1 (by omega) hn (fun e he hp => q0 e he (by unfold plusG; rw [if_pos e0]; exact hp)) (fun r hp => q1 r (by unfold plusG; rw [if_pos e0]; exact hp))
      rw [e] at this; exact this
    refine Br.pos (by omega) ⟨b[i], Got.i ⟨_, Qty_r (by omega), Br.i (fun c => Br.i (fun c2 => Lf.i (q0 2 (by decide) ?_)) (fun c2 => Got.i (Num.n (by omega) (Br.i (fun c3 => Lf.i (over (by omega) (by omega))) (fun c3 => Got.i (Got.i (Num.n (by omega) ⟨_, S, Num.n (by omega) (okk (by omega) (by omega))⟩) z g) z g))) z g))
      (fun c => Got.i (Num.n (by omega) (Br.i (fun c3 => Lf.i (over (by omega) (by omega))) (fun c3 => Got.i (Got.i (Num.n (by omega) ⟨_, S, Num.n (by omega) (okk (by omega) (by omega))⟩) z g) z g))) z g)⟩ z g⟩
    have e : addG a b[i] = ([], 2) := by unfold addG; rw [if_pos ⟨c, by omega⟩]
    unfold plusG; rw [e]; rfl
theorem RPlus_r {a b : List api_Lot} (ha : Lk a) (hl : b.length ≤ 1000000) (hq : Ql b) : lombardref17_Plus_r a b (plusG a b) := by
  refine lombardref17_Plus_of ?_
  unfold lombardref17_Plus_w
  refine rplus_l hl hq b.length 0 a (by omega) ha (fun e _ hp => Rt.i ?_) (fun r hp => Rt.i ?_)
  · rw [List.drop_zero] at hp; exact hp.symm
  · rw [List.drop_zero] at hp; exact hp.symm
/-! Taken away. -/
theorem setG_T {s : ByteArray} {q : Int} {B : List api_Lot} : ∀ {A : List api_Lot}, (∀ y ∈ A, y.ISIN ≠ s) → setG s q true (A ++ B) = A ++ setG s q true B
  | [], _ => rfl
  | y :: A, h => by
    simp only [List.cons_append, setG]
    rw [if_neg (h y (by simp)), setG_T fun z hz => h z (by simp [hz])]; rfl
def subG (a : List api_Lot) (x : api_Lot) : List api_Lot := setG x.ISIN (qtyG x.ISIN a - x.Qty) (qtyG x.ISIN a - x.Qty == 0) a
def minusG : List api_Lot → List api_Lot → List api_Lot × Int
  | a, [] => (a, 0)
  | a, x :: b => if qtyG x.ISIN a < x.Qty then ([], 20) else minusG (subG a x) b
theorem sub_cases {a : List api_Lot} {x : api_Lot} (ha : Lk a) (hx : 1 ≤ x.Qty ∧ x.Qty ≤ 1125899906842624) (c : ¬ qtyG x.ISIN a < x.Qty) : ∃ A y B, a = A ++ y :: B ∧ (∀ z ∈ A, sLt z.ISIN x.ISIN) ∧ (∀ z ∈ y :: B, ¬ sLt z.ISIN x.ISIN) ∧ hit x.ISIN (y :: B) = true ∧ y.ISIN = x.ISIN ∧ qtyG x.ISIN a = y.Qty ∧
    subG a x = if y.Qty - x.Qty = 0 then A ++ B else A ++ ⟨x.ISIN, y.Qty - x.Qty⟩ :: B := by
  obtain ⟨A, B, e, hA, hB, h⟩ := add_cases (x := x) ha
  rcases h with ⟨_, h, _⟩ | ⟨y, B', rfl, h1, h2, h3, h4⟩
  · omega
  · refine ⟨A, y, B', e, hA, hB, h1, h2, h3, ?_⟩
    unfold subG
    rw [h3]
    have hs := ha.srt
    rw [e] at hs
    have hz := gone_B (List.pairwise_append.1 hs).2.1 (hB y (by simp))
    by_cases k : y.Qty - x.Qty = 0
    · rw [if_pos k, k]
      show setG x.ISIN 0 true a = _
      rw [e, setG_T (fun z hz e => by have := hA z hz; rw [e] at this; exact sLt_irrefl _ this)]
      simp only [setG]
      rw [if_pos h2, setG_B hz]; rfl
    · rw [if_neg k, beq_false_of_ne k]
      exact h4 _
theorem sub_ok {a : List api_Lot} {x : api_Lot} (ha : Lk a) (hx : 1 ≤ x.Qty ∧ x.Qty ≤ 1125899906842624) (c : ¬ qtyG x.ISIN a < x.Qty) : Lk (subG a x) := by
  obtain ⟨A, y, B, e, hA, hB, _, h2, h3, h4⟩ := sub_cases ha hx c
  rw [h4]
  have hs := ha.srt
  rw [e] at hs
  obtain ⟨sA, sB, sAB⟩ := List.pairwise_append.1 hs
  have hl := ha.len
  have hp := ha.pos
  rw [e] at hl hp
  simp only [List.length_append, List.length_cons] at hl
  have hy := hp y (by simp)
  split
  · refine ⟨List.pairwise_append.2 ⟨sA, (List.pairwise_cons.1 sB).2, fun z hz w hw => sAB z hz w (by simp [hw])⟩, fun z hz => hp z ?_, by simp; omega⟩
    rcases List.mem_append.1 hz with hz | hz <;> simp [hz]
  · refine ⟨List.pairwise_append.2 ⟨sA, List.pairwise_cons.2 ⟨fun w hw => ?_, (List.pairwise_cons.1 sB).2⟩, fun z hz w hw => ?_⟩, fun z hz => ?_, by simp; omega⟩
    · have := (List.pairwise_cons.1 sB).1 w hw
      rw [h2] at this; exact this
    · rcases List.mem_cons.1 hw with rfl | hw
      · exact hA z hz
      · exact sAB z hz w (by simp [hw])
    · rcases List.mem_append.1 hz with hz | hz
      · exact hp z (by simp [hz])
      · rcases List.mem_cons.1 hz with rfl | hz
        · show 1 ≤ y.Qty - x.Qty ∧ y.Qty - x.Qty ≤ 1125899906842624
          omega
        · exact hp z (by simp [hz])
theorem minus_ok : ∀ (b a : List api_Lot), Lk a → Ql b → (minusG a b).2 = 0 → Lk (minusG a b).1
  | [], a, h, _, _ => h
  | x :: b, a, h, hq, h0 => by
    unfold minusG at h0 ⊢
    split at h0
    · cases h0
    · rename_i c
      rw [if_neg c]
      exact minus_ok b _ (sub_ok h (hq x (by simp)) c) (fun y hy => hq y (by simp [hy])) h0
theorem minus_l {b : List api_Lot} (hl : b.length ≤ 1000000) (hq : Ql b) {Q0 : Unit → Prop} {Q1 : List api_Lot → Prop} : ∀ (n i : Nat) (a : List api_Lot), n + i = b.length → Lk a → (minusG a (b.drop i) = ([], 20) → Q0 ()) → (∀ r, minusG a (b.drop i) = (r, 0) → Q1 r) → lots_Minus_L0 b Q0 Q1 (i : Int) a := by
  intro n
  induction n with
  | zero =>
    intro i a h ha q0 q1
    refine lots_Minus_l0 ?_
    unfold lots_Minus_w0
    rw [lenM_eq]
    rw [List.drop_of_length_le (by omega)] at q1
    exact Br.neg (by omega) (Lf.i (q1 a rfl))
  | succ n ih =>
    intro i a h ha q0 q1
    have hi : i < b.length := by omega
    refine lots_Minus_l0 ?_
    unfold lots_Minus_w0
    rw [lenM_eq]
    rw [List.drop_eq_getElem_cons hi] at q0 q1
    have hx := hq b[i] (List.getElem_mem hi)
    have al := ha.len
    have g : b[(i : Int).toNat]? = some b[i] := by simp [hi]
    obtain ⟨A, B, e, hA, hB, hc⟩ := add_cases (x := b[i]) ha
    have hp := place_r hA hB (by rw [← e]; omega)
    rw [← e] at hp
    refine Br.pos (by omega) ⟨b[i], Got.i ⟨_, hp, ?_⟩ (by omega) g⟩
    rcases hc with ⟨c1, c2, _⟩ | ⟨y, B', rfl, c1, c4, c2, _⟩
    · refine Br.t (by rw [c1]; rfl) (Lf.i (q0 ?_))
      unfold minusG; rw [if_pos (by omega)]
    · have ha2 : A.length < a.length := by rw [e]; simp
      have g2 : a[((A.length : Nat) : Int).toNat]? = some y := by rw [e]; simp
      have i2 : ((A.length : Nat) : Int).toNat < a.length := by simpa using ha2
      have yq := ha.pos y (by rw [e]; simp)
      refine Br.f (by rw [c1]; rfl) (InL.i ⟨y, EltG.i (Br.i (fun c => Lf.i (q0 ?_)) (fun c => InL.i (EltG.i (Num.n (by omega) (InL.i (EltS.i ?_ g2) (by omega) i2)) g2) (by omega) i2)) g2⟩ (by omega) i2)
      · unfold minusG; rw [if_pos (by rw [c2]; exact c)]
      · have c' : ¬ qtyG b[i].ISIN a < b[i].Qty := by rw [c2]; exact c
        have hsub : subG a b[i] = if y.Qty - b[i].Qty = 0 then A ++ B' else A ++ ⟨b[i].ISIN, y.Qty - b[i].Qty⟩ :: B' := by
          obtain ⟨A2, y2, B2, e2, hA2, hB2, _, k2, k3, k4⟩ := sub_cases ha hx c'
          have hs := ha.srt
          have : A2 = A ∧ y2 :: B2 = y :: B' := by
            have l1 : ∀ (A A2 : List api_Lot) (B B2 : List api_Lot), A ++ B = A2 ++ B2 → (∀ z ∈ A, sLt z.ISIN b[i].ISIN) → (∀ z ∈ A2, sLt z.ISIN b[i].ISIN) → (∀ z ∈ B, ¬ sLt z.ISIN b[i].ISIN) → (∀ z ∈ B2, ¬ sLt z.ISIN b[i].ISIN) → A2 = A ∧ B2 = B := by
              intro A
              induction A with
              | nil =>
                intro A2 B B2 e h1 h2 h3 h4
                cases A2 with
                | nil => exact ⟨rfl, e.symm⟩
                | cons z A2 => exact absurd (h2 z (by simp)) (h3 z (by rw [List.nil_append] at e; rw [e]; simp))
              | cons w A ih =>
                intro A2 B B2 e h1 h2 h3 h4
                cases A2 with
                | nil => exact absurd (h1 w (by simp)) (h4 w (by rw [List.nil_append] at e; rw [← e]; simp))
                | cons z A2 =>
                  simp only [List.cons_append, List.cons.injEq] at e
                  obtain ⟨rfl, e⟩ := e
                  obtain ⟨r1, r2⟩ := ih A2 B B2 e (fun z hz => h1 z (by simp [hz])) (fun z hz => h2 z (by simp [hz])) h3 h4
                  exact ⟨by rw [r1], r2⟩
            exact l1 A A2 (y :: B') (y2 :: B2) (by rw [← e, ← e2]) hA hA2 hB hB2
          obtain ⟨rfl, k⟩ := this
          cases k
          exact k4
        have next : lots_Minus_L0 b Q0 Q1 ((i : Int) + 1) (subG a b[i]) := ih (i + 1) _ (by omega) (sub_ok ha hx c') (fun k => q0 (by unfold minusG; rw [if_neg c']; exact k)) (fun r k => q1 r (by unfold minusG; rw [if_neg c']; exact k))
        have es : a.set ((A.length : Nat) : Int).toNat ⟨y.ISIN, y.Qty - b[i].Qty⟩ = A ++ ⟨b[i].ISIN, y.Qty - b[i].Qty⟩ :: B' := by
          rw [e, Int.toNat_natCast, List.set_append_right _ _ (Nat.le_refl _), Nat.sub_self, c4]; rfl
        rw [es]
        have g3 : (A ++ (⟨b[i].ISIN, y.Qty - b[i].Qty⟩ : api_Lot) :: B')[((A.length : Nat) : Int).toNat]? = some ⟨b[i].ISIN, y.Qty - b[i].Qty⟩ := by simp
        have i3 : ((A.length : Nat) : Int).toNat < (A ++ (⟨b[i].ISIN, y.Qty - b[i].Qty⟩ : api_Lot) :: B').length := by simp
        refine InL.i ⟨_, EltG.i (Br.i (fun k => Num.n (by omega) ⟨A ++ B', ?_, Num.n (by omega) ?_⟩) (fun k => Num.n (by omega) ?_)) g3⟩ (by omega) i3
        · have := Con_delete (rows := (A ++ (⟨b[i].ISIN, y.Qty - b[i].Qty⟩ : api_Lot) :: B').map api_Lot.enc) (i := A.length) (by simp) (enters_of Try.func36 (by kernel_rfl) rfl)
          unfold DelR
          rw [show ((A ++ B').map api_Lot.enc) = ((A ++ (⟨b[i].ISIN, y.Qty - b[i].Qty⟩ : api_Lot) :: B').map api_Lot.enc).take A.length ++ ((A ++ (⟨b[i].ISIN, y.Qty - b[i].Qty⟩ : api_Lot) :: B').map api_Lot.enc).drop (A.length + 1) by rw [← List.map_take, ← List.map_drop, ← List.map_append]; congr 1; rw [List.take_left, ← List.drop_drop]; simp]
          exact this
        · rw [hsub, if_pos k] at next; exact next
        · rw [hsub, if_neg k] at next; exact next
theorem Minus_r {a b : List api_Lot} (ha : Lk a) (hl : b.length ≤ 1000000) (hq : Ql b) : lots_Minus_r a b (minusG a b) := by
  refine lots_Minus_of ?_
  unfold lots_Minus_w
  refine ⟨_, Clone32_r (by have := ha.len; omega), minus_l hl hq b.length 0 a (by omega) ha (fun hp => Rt.i ?_) (fun r hp => Rt.i ?_)⟩
  · rw [List.drop_zero] at hp; exact hp.symm
  · rw [List.drop_zero] at hp; exact hp.symm
theorem rminus_l {b : List api_Lot} (hl : b.length ≤ 1000000) (hq : Ql b) {Q0 : Unit → Prop} {Q1 : List api_Lot → Prop} : ∀ (n i : Nat) (a : List api_Lot), n + i = b.length → Lk a → (minusG a (b.drop i) = ([], 20) → Q0 ()) → (∀ r, minusG a (b.drop i) = (r, 0) → Q1 r) → lombardref17_Minus_L0 b Q0 Q1 a (i : Int) := by
  intro n
  induction n with
  | zero =>
    intro i a h ha q0 q1
    refine lombardref17_Minus_l0 ?_
    unfold lombardref17_Minus_w0
    rw [lenM_eq]
    rw [List.drop_of_length_le (by omega)] at q1
    exact Br.neg (by omega) (Lf.i (q1 a rfl))
  | succ n ih =>
    intro i a h ha q0 q1
    have hi : i < b.length := by omega
    refine lombardref17_Minus_l0 ?_
    unfold lombardref17_Minus_w0
    rw [lenM_eq]
    rw [List.drop_eq_getElem_cons hi] at q0 q1
    have hx := hq b[i] (List.getElem_mem hi)
    have al := ha.len
    have qb := qtyG_bd (s := b[i].ISIN) ha.pos
    have g : b[(i : Int).toNat]? = some b[i] := by simp [hi]
    have z : (0 : Int) ≤ (i : Int) := by omega
    refine Br.pos (by omega) ⟨b[i], Got.i ⟨_, Qty_r (by omega), Got.i (Br.i (fun c => Lf.i (q0 ?_)) (fun c => Got.i (Got.i (Num.n (by omega) ⟨_, Set_r (by omega), Num.n (by omega) (ih (i + 1) _ (by omega) (sub_ok ha hx c) (fun k => q0 ?_) (fun r k => q1 r ?_))⟩) z g) z g)) z g⟩ z g⟩
    · unfold minusG; rw [if_pos c]
    · unfold minusG; rw [if_neg c]; exact k
    · unfold minusG; rw [if_neg c]; exact k
theorem RMinus_r {a b : List api_Lot} (ha : Lk a) (hl : b.length ≤ 1000000) (hq : Ql b) : lombardref17_Minus_r a b (minusG a b) := by
  refine lombardref17_Minus_of ?_
  unfold lombardref17_Minus_w
  refine rminus_l hl hq b.length 0 a (by omega) ha (fun hp => Rt.i ?_) (fun r hp => Rt.i ?_)
  · rw [List.drop_zero] at hp; exact hp.symm
  · rw [List.drop_zero] at hp; exact hp.symm
/-! What is in both. -/
def bothG (b : List api_Lot) : List api_Lot → List api_Lot
  | [] => []
  | x :: a => if 0 < min x.Qty (qtyG x.ISIN b) then ⟨x.ISIN, min x.Qty (qtyG x.ISIN b)⟩ :: bothG b a else bothG b a
theorem LQty_r {a : List api_Lot} (ha : Lk a) (s : ByteArray) : lots_Qty_r a s (qtyG s a) := by
  refine lots_Qty_of ?_
  unfold lots_Qty_w
  have al := ha.len
  obtain ⟨A, B, e, hA, hB, hc⟩ := add_cases (x := ⟨s, 1⟩) ha
  have hp := place_r hA hB (by rw [← e]; omega)
  rw [← e] at hp
  refine ⟨_, hp, ?_⟩
  rcases hc with ⟨c1, c2, _⟩ | ⟨y, B', rfl, c1, c4, c2, _⟩
  · exact Br.t (by rw [c1]; rfl) (Rt.i c2.symm)
  · have g2 : a[((A.length : Nat) : Int).toNat]? = some y := by rw [e]; simp
    exact Br.f (by rw [c1]; rfl) ⟨y, Got.i (Rt.i c2.symm) (by omega) g2⟩
theorem both_l {a b : List api_Lot} (hl : a.length ≤ 1000000) (hb : Lk b) {Q : List api_Lot → Prop} : ∀ (n i : Nat) (acc : List api_Lot), n + i = a.length → acc.length ≤ i → Q (acc ++ bothG b (a.drop i)) → lots_Both_L0 b a Q (i : Int) acc := by
  intro n
  induction n with
  | zero =>
    intro i acc h hc q
    refine lots_Both_l0 ?_
    unfold lots_Both_w0
    rw [lenM_eq]
    rw [List.drop_of_length_le (by omega)] at q
    exact Br.neg (by omega) (Lf.i (by simpa [bothG] using q))
  | succ n ih =>
    intro i acc h hc q
    have hi : i < a.length := by omega
    refine lots_Both_l0 ?_
    unfold lots_Both_w0
    rw [lenM_eq]
    rw [List.drop_eq_getElem_cons hi, bothG] at q
    have g : a[(i : Int).toNat]? = some a[i] := by simp [hi]
    refine Br.pos (by omega) ⟨a[i], Got.i ⟨_, LQty_r hb _, Br.i (fun c => App2.i (app24 (by simp; omega)) (Num.n (by omega) (ih (i + 1) _ (by omega) (by simp; omega) ?_))) (fun c => Num.n (by omega) (ih (i + 1) _ (by omega) (by omega) ?_))⟩ (by omega) g⟩
    · rw [if_pos c] at q; rw [List.append_assoc]; exact q
    · rw [if_neg c] at q; exact q
theorem Both_r {a b : List api_Lot} (hl : a.length ≤ 1000000) (hb : Lk b) : lots_Both_r a b (bothG b a) := by
  refine lots_Both_of ?_
  unfold lots_Both_w
  exact both_l hl hb a.length 0 [] (by omega) (by simp) (Rt.i (by simp))
theorem rboth_l {a b : List api_Lot} (hl : a.length ≤ 1000000) (hb : Lk b) {Q : List api_Lot → Prop} : ∀ (n i : Nat) (acc : List api_Lot), n + i = a.length → acc.length ≤ i → Q (acc ++ bothG b (a.drop i)) → lombardref17_Both_L0 a b Q (i : Int) acc := by
  intro n
  induction n with
  | zero =>
    intro i acc h hc q
    refine lombardref17_Both_l0 ?_
    unfold lombardref17_Both_w0
    rw [lenM_eq]
    rw [List.drop_of_length_le (by omega)] at q
    exact Br.neg (by omega) (Lf.i (by simpa [bothG] using q))
  | succ n ih =>
    intro i acc h hc q
    have hi : i < a.length := by omega
    refine lombardref17_Both_l0 ?_
    unfold lombardref17_Both_w0
    rw [lenM_eq]
    rw [List.drop_eq_getElem_cons hi, bothG] at q
    have g : a[(i : Int).toNat]? = some a[i] := by simp [hi]
    have z : (0 : Int) ≤ (i : Int) := by omega
    have bl := hb.len
    have yes : ∀ m : Int, m = min a[i].Qty (qtyG a[i].ISIN b) → 0 < m → lombardref17_Both_L0 a b Q ((i : Int) + 1) (acc ++ [⟨a[i].ISIN, m⟩]) := fun m hm h0 => by
      subst hm
      rw [if_pos h0] at q
      exact ih (i + 1) _ (by omega) (by simp; omega) (by rw [List.append_assoc]; exact q)
    have no : ¬ 0 < min a[i].Qty (qtyG a[i].ISIN b) → lombardref17_Both_L0 a b Q ((i : Int) + 1) acc := fun h0 => by
      rw [if_neg h0] at q
      exact ih (i + 1) _ (by omega) (by omega) q
    refine Br.pos (by omega) ⟨a[i], Got.i ⟨_, Qty_r (by omega), Got.i (Br.i (fun c => Got.i (Br.i (fun c2 => Got.i (App2.i (app24 (by simp; omega)) (Num.n (by omega) (yes a[i].Qty (by omega) c2))) z g) (fun c2 => Num.n (by omega) (no (by omega)))) z g)
      (fun c => Br.i (fun c2 => Got.i (App2.i (app24 (by simp; omega)) (Num.n (by omega) (yes _ (by omega) c2))) z g) (fun c2 => Num.n (by omega) (no (by omega))))) z g⟩ z g⟩
theorem RBoth_r {a b : List api_Lot} (hl : a.length ≤ 1000000) (hb : Lk b) : lombardref17_Both_r a b (bothG b a) := by
  refine lombardref17_Both_of ?_
  unfold lombardref17_Both_w
  exact rboth_l hl hb a.length 0 [] (by omega) (by simp) (Rt.i (by simp))
/-! What is wrong with lots. -/
def chkG : Option api_Lot → Nat → List api_Lot → Int × Int
  | _, i, [] => (i, 0)
  | p, i, x :: l => if ¬ (1 ≤ x.Qty ∧ x.Qty ≤ 1125899906842624) then (i, 1) else match p with
    | none => chkG (some x) (i + 1) l
    | some y => if ¬ sLt y.ISIN x.ISIN then (i, 7) else chkG (some x) (i + 1) l
theorem chkG_cons (p : Option api_Lot) (i : Nat) (x : api_Lot) (l : List api_Lot) : chkG p i (x :: l) = if ¬ (1 ≤ x.Qty ∧ x.Qty ≤ 1125899906842624) then ((i : Int), 1) else match p with
    | none => chkG (some x) (i + 1) l
    | some y => if ¬ sLt y.ISIN x.ISIN then ((i : Int), 7) else chkG (some x) (i + 1) l := by cases p <;> rfl
def checkG (l : List api_Lot) : Int × Int := if (64 : Int) < l.length then (0, 2) else chkG none 0 l
def Pre (a : List api_Lot) (i : Nat) (p : Option api_Lot) : Prop := i = 0 ∧ p = none ∨ 0 < i ∧ ∃ y, p = some y ∧ a[i - 1]? = some y
theorem chk_l {a : List api_Lot} (hl : a.length ≤ 1000000) {P : Int × Int → Prop} {Q0 : Int × Int → Prop} {Q1 : Unit → Prop} (q0 : ∀ v, v.2 ≠ 0 → P v → Q0 v) (q1 : P ((a.length : Nat), 0) → Q1 ()) : ∀ (n i : Nat) (p : Option api_Lot), n + i = a.length → Pre a i p → P (chkG p i (a.drop i)) → lots_Check_L0 a Q0 Q1 (i : Int) := by
  intro n
  induction n with
  | zero =>
    intro i p h hp q
    refine lots_Check_l0 ?_
    unfold lots_Check_w0
    rw [lenM_eq]
    rw [List.drop_of_length_le (by omega)] at q
    refine Br.neg (by omega) (Lf.i (q1 ?_))
    have e : i = a.length := by omega
    subst e
    cases p <;> exact q
  | succ n ih =>
    intro i p h hp q
    have hi : i < a.length := by omega
    refine lots_Check_l0 ?_
    unfold lots_Check_w0
    rw [lenM_eq]
    rw [List.drop_eq_getElem_cons hi, chkG_cons] at q
    have g : a[(i : Int).toNat]? = some a[i] := by simp [hi]
    have hn : Pre a (i + 1) (some a[i]) := .inr ⟨by omega, _, rfl, by rw [Nat.add_sub_cancel]; exact List.getElem?_eq_getElem hi⟩
    refine Br.pos (by omega) ⟨a[i], Got.i (Br.i (fun c => Lf.i (q0 (_, _) (fun k => by cases k) ?_)) (fun c => Br.i (fun c2 => Lf.i (q0 (_, _) (fun k => by cases k) ?_)) (fun c2 => ?_))) (by omega) g⟩
    · rw [if_pos (by omega)] at q; exact q
    · rw [if_pos (by omega)] at q; exact q
    · rw [if_neg (by omega)] at q
      rcases hp with ⟨rfl, rfl⟩ | ⟨h0, y, rfl, hy⟩
      · exact Br.neg (by omega) (Num.n (by omega) (ih 1 _ (by omega) hn q))
      · have g2 : a[((i : Int) - 1).toNat]? = some y := by rw [show ((i : Int) - 1).toNat = i - 1 by omega]; exact hy
        have q : P (if ¬ sLt y.ISIN a[i].ISIN then ((i : Int), 7) else chkG (some a[i]) (i + 1) (a.drop (i + 1))) := q
        refine Br.pos (by omega) (Num.n (by omega) ⟨y, Got.i ?_ (by omega) g2⟩)
        rw [strLe_s]
        refine Br.i (fun c => Lf.i (q0 (_, _) (fun k => by cases k) ?_)) (fun c => Num.n (by omega) (ih (i + 1) _ (by omega) hn ?_))
        · rw [if_pos c] at q; exact q
        · rw [if_neg c] at q; exact q
theorem Check_r {a : List api_Lot} (hl : a.length ≤ 1000000) : lots_Check_r a (checkG a) := by
  refine lots_Check_of ?_
  unfold lots_Check_w checkG
  rw [lenM_eq]
  refine Br.i (fun c => Rt.i (by rw [if_pos c])) (fun c => ?_)
  rw [if_neg c]
  exact chk_l hl (P := fun v => v = chkG none 0 a) (fun v _ hv => Rt.i hv) (fun hv => Rt.i hv) a.length 0 none (by omega) (.inl ⟨rfl, rfl⟩) (by rw [List.drop_zero])
theorem rchk_l {a : List api_Lot} (hl : a.length ≤ 1000000) {P : Int × Int → Prop} {Q0 : Int × Int → Prop} {Q1 : Unit → Prop} (q0 : ∀ v, v.2 ≠ 0 → P v → Q0 v) (q1 : P ((a.length : Nat), 0) → Q1 ()) : ∀ (n i : Nat) (p : Option api_Lot), n + i = a.length → Pre a i p → P (chkG p i (a.drop i)) → lombardref17_Check_L0 a Q0 Q1 (i : Int) := by
  intro n
  induction n with
  | zero =>
    intro i p h hp q
    refine lombardref17_Check_l0 ?_
    unfold lombardref17_Check_w0
    rw [lenM_eq]
    rw [List.drop_of_length_le (by omega)] at q
    refine Br.neg (by omega) (Lf.i (q1 ?_))
    have e : i = a.length := by omega
    subst e
    cases p <;> exact q
  | succ n ih =>
    intro i p h hp q
    have hi : i < a.length := by omega
    refine lombardref17_Check_l0 ?_
    unfold lombardref17_Check_w0
    rw [lenM_eq]
    rw [List.drop_eq_getElem_cons hi, chkG_cons] at q
    have g : a[(i : Int).toNat]? = some a[i] := by simp [hi]
    have hn : Pre a (i + 1) (some a[i]) := .inr ⟨by omega, _, rfl, by rw [Nat.add_sub_cancel]; exact List.getElem?_eq_getElem hi⟩
    have hg : lombardref17_good_r a[i].Qty (decide (1 ≤ a[i].Qty ∧ a[i].Qty ≤ 1125899906842624)) := by
      refine lombardref17_good_of ?_
      unfold lombardref17_good_w
      refine Br.i (fun c => Rt.i (decide_eq_decide.2 ⟨fun k => ⟨by omega, k⟩, fun k => k.2⟩)) (fun c => Rt.i (decide_eq_false (fun k => c (by omega))).symm)
    refine Br.pos (by omega) ⟨a[i], Got.i ⟨_, hg, Br.i (fun c => Lf.i (q0 (_, _) (fun k => by cases k) ?_)) (fun c => ?_)⟩ (by omega) g⟩
    · rw [if_pos c] at q; exact q
    · rw [if_neg c] at q
      rcases hp with ⟨rfl, rfl⟩ | ⟨h0, y, rfl, hy⟩
      · exact Br.neg (by omega) (Num.n (by omega) (ih 1 _ (by omega) hn q))
      · have g2 : a[((i : Int) - 1).toNat]? = some y := by rw [show ((i : Int) - 1).toNat = i - 1 by omega]; exact hy
        have q : P (if ¬ sLt y.ISIN a[i].ISIN then ((i : Int), 7) else chkG (some a[i]) (i + 1) (a.drop (i + 1))) := q
        refine Br.pos (by omega) (Num.n (by omega) ⟨y, Got.i (Got.i ?_ (by omega) g) (by omega) g2⟩)
        rw [strLt_s]
        refine Br.i (fun c => Lf.i (q0 (_, _) (fun k => by cases k) ?_)) (fun c => Num.n (by omega) (ih (i + 1) _ (by omega) hn ?_))
        · rw [if_pos c] at q; exact q
        · rw [if_neg c] at q; exact q
theorem RCheck17_r {a : List api_Lot} (hl : a.length ≤ 1000000) : lombardref17_Check_r a (checkG a) := by
  refine lombardref17_Check_of ?_
  unfold lombardref17_Check_w checkG
  rw [lenM_eq]
  refine Br.i (fun c => Rt.i (by rw [if_pos c])) (fun c => ?_)
  rw [if_neg c]
  exact rchk_l hl (P := fun v => v = chkG none 0 a) (fun v _ hv => Rt.i hv) (fun hv => Rt.i hv) a.length 0 none (by omega) (.inl ⟨rfl, rfl⟩) (by rw [List.drop_zero])
theorem chk_ok : ∀ (l : List api_Lot) (p : Option api_Lot) (i : Nat), (chkG p i l).2 = 0 → l.Pairwise (fun x y => sLt x.ISIN y.ISIN) ∧ (∀ x ∈ l, 1 ≤ x.Qty ∧ x.Qty ≤ 1125899906842624) ∧ ∀ y, p = some y → ∀ x ∈ l, sLt y.ISIN x.ISIN
  | [], _, _, _ => ⟨List.Pairwise.nil, by simp, by simp⟩
  | x :: l, p, i, h => by
    rw [chkG_cons] at h
    by_cases c : 1 ≤ x.Qty ∧ x.Qty ≤ 1125899906842624
    · rw [if_neg (fun k => k c)] at h
      have key : (chkG (some x) (i + 1) l).2 = 0 ∧ ∀ y, p = some y → sLt y.ISIN x.ISIN := by
        cases p with
        | none => exact ⟨h, fun y hy => by cases hy⟩
        | some y =>
          have h : (if ¬ sLt y.ISIN x.ISIN then ((i : Int), (7 : Int)) else chkG (some x) (i + 1) l).2 = 0 := h
          by_cases k : sLt y.ISIN x.ISIN
          · rw [if_neg (fun q => q k)] at h; exact ⟨h, fun z hz => by cases hz; exact k⟩
          · rw [if_pos k] at h; cases h
      obtain ⟨k1, k2, k3⟩ := chk_ok l (some x) (i + 1) key.1
      refine ⟨List.pairwise_cons.2 ⟨fun z hz => k3 x rfl z hz, k1⟩, fun z hz => ?_, fun y hy z hz => ?_⟩
      · rcases List.mem_cons.1 hz with rfl | hz
        · exact c
        · exact k2 z hz
      · rcases List.mem_cons.1 hz with rfl | hz
        · exact key.2 y hy
        · exact sLt_trans (key.2 y hy) (k3 x rfl z hz)
    · rw [if_pos c] at h; cases h
theorem check_ok {l : List api_Lot} (h : (checkG l).2 = 0) : Lk l := by
  unfold checkG at h
  by_cases c : (64 : Int) < l.length
  · rw [if_pos c] at h; cases h
  · rw [if_neg c] at h
    obtain ⟨h1, h2, _⟩ := chk_ok l none 0 h
    exact ⟨h1, h2, by omega⟩
/-! How many of each. -/
theorem qtyG_mem {x : api_Lot} : ∀ {l : List api_Lot}, l.Pairwise (fun x y => sLt x.ISIN y.ISIN) → x ∈ l → qtyG x.ISIN l = x.Qty
  | [], _, h => by cases h
  | y :: l, hs, h => by
    simp only [qtyG]
    rcases List.mem_cons.1 h with rfl | h
    · rw [if_pos rfl]
    · have := (List.pairwise_cons.1 hs).1 x h
      rw [if_neg (fun e => by rw [e] at this; exact sLt_irrefl _ this)]
      exact qtyG_mem (List.pairwise_cons.1 hs).2 h
theorem qtyG_app {s : ByteArray} {B : List api_Lot} : ∀ {A : List api_Lot}, (∀ y ∈ A, y.ISIN ≠ s) → qtyG s (A ++ B) = qtyG s B
  | [], _ => rfl
  | y :: A, h => by
    simp only [List.cons_append, qtyG]
    rw [if_neg (h y (by simp))]; exact qtyG_app fun z hz => h z (by simp [hz])
theorem qtyG_mid {s t : ByteArray} {q r : Int} {B : List api_Lot} (hs : s ≠ t) : ∀ {A : List api_Lot}, qtyG s (A ++ ⟨t, q⟩ :: B) = qtyG s (A ++ B)
  | [] => by simp only [List.nil_append, qtyG]; rw [if_neg (fun e => hs e.symm)]
  | y :: A => by simp only [List.cons_append, qtyG]; rw [qtyG_mid (r := r) hs]
theorem qtyG_sub {a : List api_Lot} {x : api_Lot} (ha : Lk a) (hx : 1 ≤ x.Qty ∧ x.Qty ≤ 1125899906842624) (c : ¬ qtyG x.ISIN a < x.Qty) (s : ByteArray) : qtyG s (subG a x) = qtyG s a - (if x.ISIN = s then x.Qty else 0) := by
  obtain ⟨A, y, B, e, hA, hB, _, h2, h3, h4⟩ := sub_cases ha hx c
  have hs := ha.srt
  rw [e] at hs
  have hz := gone_B (List.pairwise_append.1 hs).2.1 (hB y (by simp))
  have hA' : ∀ z ∈ A, z.ISIN ≠ x.ISIN := fun z hz e => by have := hA z hz; rw [e] at this; exact sLt_irrefl _ this
  rw [h4]
  by_cases k : x.ISIN = s
  · subst k
    rw [if_pos rfl, h3]
    by_cases z : y.Qty - x.Qty = 0
    · rw [if_pos z, qtyG_app hA', qtyG_none hz, z]
    · rw [if_neg z, qtyG_app hA']; simp [qtyG]
  · rw [if_neg k, Int.sub_zero]
    have e1 : qtyG s a = qtyG s (A ++ B) := by
      rw [e]
      have := qtyG_mid (q := y.Qty) (r := 0) (B := B) (fun e => k e.symm : s ≠ x.ISIN) (A := A)
      rw [← this]
      have ey : y = ⟨x.ISIN, y.Qty⟩ := by rw [← h2]
      rw [← ey]
    rw [e1]
    by_cases z : y.Qty - x.Qty = 0
    · rw [if_pos z]
    · rw [if_neg z]; exact qtyG_mid (r := 0) (fun e => k e.symm)
theorem minus_qty : ∀ (b a : List api_Lot), Lk a → Ql b → b.Pairwise (fun x y => sLt x.ISIN y.ISIN) → (∀ s, qtyG s b ≤ qtyG s a) → (minusG a b).2 = 0 ∧ ∀ s, qtyG s (minusG a b).1 = qtyG s a - qtyG s b
  | [], a, _, _, _, _ => ⟨rfl, fun s => by show qtyG s a = _; simp [qtyG]⟩
  | x :: b, a, ha, hq, hs, hle => by
    have hx := hq x (by simp)
    have c : ¬ qtyG x.ISIN a < x.Qty := by
      have := hle x.ISIN
      simp only [qtyG] at this
      rw [if_pos trivial] at this
      omega
    obtain ⟨h1, h2⟩ := List.pairwise_cons.1 hs
    have nx : qtyG x.ISIN b = 0 := qtyG_none fun y hy e => by have := h1 y hy; rw [e] at this; exact sLt_irrefl _ this
    have hle2 : ∀ s, qtyG s b ≤ qtyG s (subG a x) := fun s => by
      rw [qtyG_sub ha hx c]
      by_cases k : x.ISIN = s
      · subst k; rw [if_pos rfl, nx]; omega
      · rw [if_neg k]
        have := hle s
        simp only [qtyG] at this
        rw [if_neg k] at this
        omega
    obtain ⟨r1, r2⟩ := minus_qty b (subG a x) (sub_ok ha hx c) (fun y hy => hq y (by simp [hy])) h2 hle2
    unfold minusG
    rw [if_neg c]
    refine ⟨r1, fun s => ?_⟩
    rw [r2, qtyG_sub ha hx c]
    simp only [qtyG]
    by_cases k : x.ISIN = s
    · subst k; rw [if_pos rfl, if_pos rfl, nx]; omega
    · rw [if_neg k, if_neg k]; omega
theorem both_mem {b : List api_Lot} : ∀ {a : List api_Lot} {z : api_Lot}, z ∈ bothG b a → ∃ x ∈ a, z.ISIN = x.ISIN ∧ 0 < z.Qty ∧ z.Qty ≤ x.Qty
  | [], z, h => by cases h
  | x :: a, z, h => by
    unfold bothG at h
    split at h
    · rename_i c
      rcases List.mem_cons.1 h with rfl | h
      · exact ⟨x, by simp, rfl, c, by show min _ _ ≤ _; omega⟩
      · obtain ⟨y, hy, k⟩ := both_mem h; exact ⟨y, by simp [hy], k⟩
    · obtain ⟨y, hy, k⟩ := both_mem h; exact ⟨y, by simp [hy], k⟩
theorem both_ok {b : List api_Lot} : ∀ {a : List api_Lot}, a.Pairwise (fun x y => sLt x.ISIN y.ISIN) → Ql a → (bothG b a).Pairwise (fun x y => sLt x.ISIN y.ISIN) ∧ Ql (bothG b a) ∧ (bothG b a).length ≤ a.length
  | [], _, _ => ⟨List.Pairwise.nil, fun z hz => (by cases hz), Nat.le_refl _⟩
  | x :: a, hs, hq => by
    obtain ⟨h1, h2⟩ := List.pairwise_cons.1 hs
    obtain ⟨k1, k2, k3⟩ := both_ok (b := b) h2 (fun y hy => hq y (by simp [hy]))
    have hx := hq x (by simp)
    unfold bothG
    split
    · rename_i c
      refine ⟨List.pairwise_cons.2 ⟨fun z hz => ?_, k1⟩, fun z hz => ?_, by simp; omega⟩
      · obtain ⟨y, hy, e, _⟩ := both_mem hz
        show sLt x.ISIN z.ISIN
        rw [e]; exact h1 y hy
      · rcases List.mem_cons.1 hz with rfl | hz
        · show 1 ≤ min _ _ ∧ min _ _ ≤ _
          omega
        · exact k2 z hz
    · exact ⟨k1, k2, by simp; omega⟩
theorem both_qty {b : List api_Lot} (hb : Ql b) : ∀ {a : List api_Lot}, a.Pairwise (fun x y => sLt x.ISIN y.ISIN) → Ql a → ∀ s, qtyG s (bothG b a) = min (qtyG s a) (qtyG s b)
  | [], _, _, s => by
    have := qtyG_bd (s := s) hb
    show (0 : Int) = min 0 _
    omega
  | x :: a, hs, hq, s => by
    obtain ⟨h1, h2⟩ := List.pairwise_cons.1 hs
    have ih := both_qty hb h2 (fun y hy => hq y (by simp [hy])) s
    have nb : x.ISIN = s → qtyG s (bothG b a) = 0 := fun e => qtyG_none fun y hy k => by
      obtain ⟨z, hz, e2, _⟩ := both_mem hy
      have := h1 z hz
      rw [← e2, k, e] at this; exact sLt_irrefl _ this
    have hx := hq x (by simp)
    have bb := qtyG_bd (s := s) hb
    unfold bothG
    simp only [qtyG]
    by_cases k : x.ISIN = s
    · subst k
      rw [if_pos rfl]
      split
      · simp [qtyG]
      · rw [nb rfl]; omega
    · rw [if_neg k]
      split
      · simp only [qtyG]; rw [if_neg k, ih]
      · exact ih
theorem both_nil {a b : List api_Lot} (ha : a.Pairwise (fun x y => sLt x.ISIN y.ISIN)) : ∀ (l : List api_Lot), (∀ x ∈ l, x ∈ a) → (∀ s, min (qtyG s a) (qtyG s b) = 0) → bothG b l = []
  | [], _, _ => rfl
  | x :: l, hl, h => by
    unfold bothG
    have := h x.ISIN
    rw [qtyG_mem ha (hl x (by simp))] at this
    rw [if_neg (by omega)]
    exact both_nil ha l (fun y hy => hl y (by simp [hy])) h
end Go.Proofs.Ytfommamkaaggjaa.Pure
