/- The book of securities: the program's and the reference's. -/
import Derived.Test.YtdljcgikknaffaaTIsin
import Derived.Test.YtdljcgikknaffaaTLotP
import Derived.Test.YtdljcgikknaffaaINIC
set_option linter.unusedVariables false
set_option linter.unusedSimpArgs false
namespace Go.Proofs.Ytdljcgikknaffaa.Pure
open Go Go.Ab Go.Proofs.Ytdljcgikknaffaa.R
set_option linter.unusedVariables false
theorem app56 {n : Nat} (h : n ≤ 1000000) : App 56 n := ⟨by unfold maxLen; omega, by omega⟩
theorem app64 {n : Nat} (h : n ≤ 1000000) : App 64 n := ⟨by unfold maxLen; omega, by omega⟩
theorem InsA_r {a : List api_Asset} {x : api_Asset} {n : Nat} (h1 : n ≤ a.length) (hb : a.length ≤ 1000) : InsR Try.prog 22 5 api_Asset.enc a (n : Int) [x] (a.take n ++ x :: a.drop n) := by
  by_cases h : n < a.length
  · have := Con_insA (rows := a.map api_Asset.enc) (x := api_Asset.enc x) (i := n) (by simpa using h) (by simp; omega) (enters_of Try.func22 (by kernel_rfl) rfl)
    unfold InsR
    rw [show (a.take n ++ x :: a.drop n).map api_Asset.enc = (a.map api_Asset.enc).take n ++ [api_Asset.enc x] ++ (a.map api_Asset.enc).drop n by simp [List.map_take, List.map_drop]]
    exact this
  · have e : n = a.length := by omega
    subst e
    have : slices_Insert_api_Asset_api_Asset_r a (a.length : Int) [x] (a ++ [x]) := by
      refine slices_Insert_api_Asset_api_Asset_of ?_
      unfold slices_Insert_api_Asset_api_Asset_w
      exact CutX.i ⟨by omega, by omega⟩ (Br.neg (by simp [lenM]) (Br.pos (by simp [lenM]) (App2.i (app56 (by simp; omega)) (Rt.i rfl))))
    rw [List.take_length, List.drop_length]
    exact this
theorem InsI_r {a : List Int} {x : Int} {n : Nat} (h1 : n ≤ a.length) (hb : a.length ≤ 1000) : InsR Try.prog 23 1 eN a (n : Int) [x] (a.take n ++ x :: a.drop n) := by
  by_cases h : n < a.length
  · have := Con_insI (rows := a.map eN) (x := eN x) (i := n) (by simpa using h) (by simp; omega) (enters_of Try.func23 (by kernel_rfl) rfl)
    unfold InsR
    rw [show (a.take n ++ x :: a.drop n).map eN = (a.map eN).take n ++ [eN x] ++ (a.map eN).drop n by simp [List.map_take, List.map_drop]]
    exact this
  · have e : n = a.length := by omega
    subst e
    have : slices_Insert_int_int_r a (a.length : Int) [x] (a ++ [x]) := by
      refine slices_Insert_int_int_of ?_
      unfold slices_Insert_int_int_w
      exact CutX.i ⟨by omega, by omega⟩ (Br.neg (by simp [lenM]) (Br.pos (by simp [lenM]) (App2.i (app8 (by simp; omega)) (Rt.i rfl))))
    rw [List.take_length, List.drop_length]
    exact this
abbrev KN := lombardref13_Known
def Ord (r : List KN) : Prop := r.Pairwise (fun x y => sLt x.A.ISIN y.A.ISIN)
def bk (r : List KN) : asset_Book := ⟨r.map (·.A), r.map (·.Price), true⟩
theorem place_1A (x : api_Asset) (s : ByteArray) : asset_Book_place_1_r x s (cmpB x.ISIN s) := by
  refine asset_Book_place_1_of ?_
  unfold asset_Book_place_1_w
  exact ⟨_, Compare_string_r _ _, Rt.i rfl⟩
theorem bsA_l {A B : List api_Asset} {s : ByteArray} (hA : ∀ y ∈ A, sLt y.ISIN s) (hB : ∀ y ∈ B, ¬ sLt y.ISIN s) (hl : (A ++ B).length ≤ 1000000) {Q : Int → Prop} (q : Q (A.length : Nat)) :
    ∀ (n i j : Nat), j - i ≤ n → i ≤ A.length → A.length ≤ j → j ≤ (A ++ B).length → slices_BinarySearchFunc_api_Asset_api_Asset_string_f39_L0 (A ++ B) s Q i j := by
  intro n
  induction n with
  | zero =>
    intro i j hn hi hj hjl
    have e : i = A.length := by omega
    refine slices_BinarySearchFunc_api_Asset_api_Asset_string_f39_l0 ?_
    unfold slices_BinarySearchFunc_api_Asset_api_Asset_string_f39_w0
    exact Br.neg (by omega) (Lf.i (by rw [e]; exact q))
  | succ n ih =>
    intro i j hn hi hj hjl
    refine slices_BinarySearchFunc_api_Asset_api_Asset_string_f39_l0 ?_
    unfold slices_BinarySearchFunc_api_Asset_api_Asset_string_f39_w0
    by_cases c : i < j
    · rw [half (i := i) (j := j) (by omega), show (((i + j) / 2 : Nat) : Int) + 1 = (((i + j) / 2 + 1 : Nat) : Int) by omega]
      have hk : (i + j) / 2 < (A ++ B).length := by omega
      refine Br.pos (by omega) (Num.n (by omega) ⟨(A ++ B)[(i + j) / 2], Got.i ⟨_, place_1A _ _, Br.i (fun c1 => Num.n (by omega) ?_) (fun c1 => ?_)⟩ (by omega) (show (A ++ B)[(i + j) / 2]? = _ from List.getElem?_eq_getElem hk)⟩)
      · have c1 := cmpB_lt.1 c1
        have : (i + j) / 2 < A.length := Nat.lt_of_not_le fun h => by
          refine hB _ ?_ c1
          rw [List.getElem_append_right h]; exact List.getElem_mem _
        exact ih _ _ (by omega) (by omega) hj hjl
      · have c1 : ¬ sLt ((A ++ B)[(i + j) / 2]).ISIN s := fun h => c1 (cmpB_lt.2 h)
        have : A.length ≤ (i + j) / 2 := Nat.le_of_not_lt fun h => by
          refine c1 (hA _ ?_)
          rw [List.getElem_append_left h]; exact List.getElem_mem _
        exact ih _ _ (by omega) hi this (by omega)
    · have e : i = A.length := by omega
      exact Br.neg (by omega) (Lf.i (by rw [e]; exact q))
def hitK (s : ByteArray) : List KN → Bool
  | [] => false
  | y :: _ => decide (y.A.ISIN = s)
theorem placeK {A B : List KN} {s : ByteArray} (hA : ∀ y ∈ A, sLt y.A.ISIN s) (hB : ∀ y ∈ B, ¬ sLt y.A.ISIN s) (hl : (A ++ B).length ≤ 1000000) {p : List Int} {m : Bool} : asset_Book_place_r ⟨(A ++ B).map (·.A), p, m⟩ s ((A.length : Nat), hitK s B) := by
  refine asset_Book_place_of ?_
  unfold asset_Book_place_w
  refine ⟨((A.length : Nat), hitK s B), slices_BinarySearchFunc_api_Asset_api_Asset_string_f39_of ?_, Rt.i rfl⟩
  unfold slices_BinarySearchFunc_api_Asset_api_Asset_string_f39_w
  rw [lenM_eq]
  have hA' : ∀ y ∈ A.map (·.A), sLt y.ISIN s := by
    intro y hy; obtain ⟨z, hz, rfl⟩ := List.mem_map.1 hy; exact hA z hz
  have hB' : ∀ y ∈ B.map (·.A), ¬ sLt y.ISIN s := by
    intro y hy; obtain ⟨z, hz, rfl⟩ := List.mem_map.1 hy; exact hB z hz
  show slices_BinarySearchFunc_api_Asset_api_Asset_string_f39_L0 ((A ++ B).map (·.A)) s _ 0 ((((A ++ B).map (·.A)).length : Nat) : Int)
  rw [List.map_append]
  have la : (A.map (·.A)).length = A.length := by simp
  refine bsA_l hA' hB' (by simpa using hl) ?_ (A.map (·.A) ++ B.map (·.A)).length 0 (A.map (·.A) ++ B.map (·.A)).length (by omega) (by omega) (by simp) (Nat.le_refl _)
  rw [la]
  cases B with
  | nil => exact Br.neg (by simp) (Rt.i rfl)
  | cons y B =>
    refine Br.pos (by simp; omega) ⟨y.A, Got.i ⟨_, place_1A _ _, Rt.i ?_⟩ (by omega) (by show (A.map (·.A) ++ (y :: B).map (·.A))[((A.length : Nat) : Int).toNat]? = _; rw [Int.toNat_natCast, List.getElem?_append_right (by simp)]; simp)⟩
    unfold hitK
    congr 1
    rw [Bool.eq_iff_iff]
    simp [cmpB_eq]
theorem splitK (s : ByteArray) : ∀ (l : List KN), Ord l → ∃ A B, l = A ++ B ∧ (∀ y ∈ A, sLt y.A.ISIN s) ∧ (∀ y ∈ B, ¬ sLt y.A.ISIN s)
  | [], _ => ⟨[], [], rfl, by simp, by simp⟩
  | y :: l, h => by
    obtain ⟨h1, h2⟩ := List.pairwise_cons.1 h
    by_cases c : sLt y.A.ISIN s
    · obtain ⟨A, B, e, hA, hB⟩ := splitK s l h2
      refine ⟨y :: A, B, by rw [e]; rfl, fun z hz => ?_, hB⟩
      rcases List.mem_cons.1 hz with rfl | hz
      · exact c
      · exact hA z hz
    · refine ⟨[], y :: l, rfl, by simp, fun z hz => ?_⟩
      rcases List.mem_cons.1 hz with rfl | hz
      · exact c
      · exact fun k => c (sLt_trans (h1 z hz) k)
def findG (s : ByteArray) : List KN → Nat → Int
  | [], _ => -1
  | y :: l, i => if y.A.ISIN = s then i else findG s l (i + 1)
theorem find_l {a : List KN} {s : ByteArray} (hl : a.length ≤ 1000000) {P : Int → Prop} {Q0 : Int → Prop} {Q1 : Unit → Prop} (q0 : ∀ v, P v → Q0 v) (q1 : P (-1) → Q1 ()) : ∀ (n i : Nat), n + i = a.length → P (findG s (a.drop i) i) → lombardref13_Find_L0 a s Q0 Q1 (i : Int) := by
  intro n
  induction n with
  | zero =>
    intro i h p
    refine lombardref13_Find_l0 ?_
    unfold lombardref13_Find_w0
    rw [lenM_eq]
    rw [List.drop_of_length_le (by omega)] at p
    exact Br.neg (by omega) (Lf.i (q1 p))
  | succ n ih =>
    intro i h p
    have hs : i < a.length := by omega
    refine lombardref13_Find_l0 ?_
    unfold lombardref13_Find_w0
    rw [lenM_eq]
    rw [List.drop_eq_getElem_cons hs, findG] at p
    have g : a[(i : Int).toNat]? = some a[i] := by simp [hs]
    refine Br.pos (by omega) ⟨a[i], Got.i (Br.i (fun c => Lf.i (q0 _ ?_)) (fun c => Num.n (by omega) (ih (i + 1) (by omega) ?_))) (by omega) g⟩
    · rw [if_pos c] at p; exact p
    · rw [if_neg c] at p; exact p
theorem findG_no {s : ByteArray} : ∀ {l : List KN} {i : Nat}, (∀ y ∈ l, y.A.ISIN ≠ s) → findG s l i = -1
  | [], _, _ => rfl
  | y :: l, i, h => by rw [findG, if_neg (h y (by simp)), findG_no fun z hz => h z (by simp [hz])]
theorem findG_A {s : ByteArray} {B : List KN} : ∀ {A : List KN} {i : Nat}, (∀ y ∈ A, sLt y.A.ISIN s) → findG s (A ++ B) i = findG s B (i + A.length)
  | [], _, _ => rfl
  | y :: A, i, h => by
    have hy := h y (by simp)
    have : y.A.ISIN ≠ s := fun e => by rw [e] at hy; exact sLt_irrefl _ hy
    rw [List.cons_append, findG, if_neg this, findG_A fun z hz => h z (by simp [hz]), List.length_cons]
    congr 1; omega
theorem missK {s : ByteArray} {B : List KN} (h : Ord B) (hB : ∀ y ∈ B, ¬ sLt y.A.ISIN s) (c : hitK s B = false) : ∀ z ∈ B, sLt s z.A.ISIN := by
  cases B with
  | nil => simp
  | cons y B =>
    have c : y.A.ISIN ≠ s := by simpa [hitK] using c
    have h1 : sLt s y.A.ISIN := Decidable.byContradiction fun k => c (sLt_tri (hB y (by simp)) k)
    intro z hz
    rcases List.mem_cons.1 hz with rfl | hz
    · exact h1
    · exact sLt_trans h1 ((List.pairwise_cons.1 h).1 z hz)
theorem findK {A B : List KN} {s : ByteArray} (h : Ord (A ++ B)) (hA : ∀ y ∈ A, sLt y.A.ISIN s) (hB : ∀ y ∈ B, ¬ sLt y.A.ISIN s) (hl : (A ++ B).length ≤ 1000000) : lombardref13_Find_r (A ++ B) s (if hitK s B then ((A.length : Nat) : Int) else -1) := by
  refine lombardref13_Find_of ?_
  unfold lombardref13_Find_w
  refine find_l hl (P := fun v => v = if hitK s B then ((A.length : Nat) : Int) else -1) (fun v p => Rt.i p) (fun p => Rt.i p) (A ++ B).length 0 (by omega) ?_
  rw [List.drop_zero, findG_A hA, Nat.zero_add]
  have hb : Ord B := (List.pairwise_append.1 h).2.1
  cases c : hitK s B with
  | false =>
    rw [findG_no]
    · rfl
    · intro y hy e
      have := missK hb hB c y hy
      rw [e] at this; exact sLt_irrefl _ this
  | true =>
    cases B with
    | nil => cases c
    | cons y B =>
      have c : y.A.ISIN = s := by simpa [hitK] using c
      rw [findG, if_pos c]; rfl
/-! One more. -/
def insG (a : api_Asset) : Bool → List KN → List KN
  | true, l => l
  | false, [] => [⟨a, 0⟩]
  | false, y :: l => if sLt a.ISIN y.A.ISIN then ⟨a, 0⟩ :: y :: l else y :: insG a false l
theorem addK_l {r : List KN} {a : api_Asset} {R : List KN} {Q : List KN → Prop} (hl : r.length ≤ 1000) (hQ : Q R) : ∀ (n i : Nat) (d : Bool) (acc : List KN), n + i = r.length → acc.length ≤ i + d.toNat → R = acc ++ insG a d (r.drop i) →
    lombardref13_Add_L0 r a (fun (y3 : Bool × (List KN)) => Br (!y3.1) (App2 64 lombardref13_Known.enc y3.2 [(⟨a, 0⟩ : KN)] (Q (y3.2 ++ [(⟨a, 0⟩ : KN)]))) (Q y3.2)) d (i : Int) acc := by
  intro n
  induction n with
  | zero =>
    intro i d acc h ha hR
    have hd : d.toNat ≤ 1 := by cases d <;> decide
    refine lombardref13_Add_l0 ?_
    unfold lombardref13_Add_w0
    rw [lenM_eq]
    rw [List.drop_of_length_le (by omega)] at hR
    refine Br.neg (by omega) (Lf.i ?_)
    cases d with
    | true => exact Br.f rfl (by rw [hR] at hQ; simpa [insG] using hQ)
    | false => exact Br.t rfl (App2.i (app64 (by simp; omega)) (by rw [hR] at hQ; simpa [insG] using hQ))
  | succ n ih =>
    intro i d acc h ha hR
    have hd : d.toNat ≤ 1 := by cases d <;> decide
    have hs : i < r.length := by omega
    refine lombardref13_Add_l0 ?_
    unfold lombardref13_Add_w0
    rw [lenM_eq]
    rw [List.drop_eq_getElem_cons hs] at hR
    have g : r[(i : Int).toNat]? = some r[i] := by simp [hs]
    refine Br.pos (by omega) ?_
    cases d with
    | true =>
      simp only [insG] at hR
      simp only [Bool.toNat_true] at ha
      refine Br.f rfl ⟨r[i], Got.i (App2.i (app64 (by simp; omega)) (Num.n (by omega) (ih (i + 1) true _ (by omega) (by simp; omega) ?_))) (by omega) g⟩
      rw [hR]; simp [insG]
    | false =>
      simp only [insG] at hR
      simp only [Bool.toNat_false] at ha
      refine Br.t rfl ⟨r[i], Got.i (Br.i (fun c0 => ?_) (fun c0 => ?_)) (by omega) g⟩
      · rw [if_pos (Decidable.not_not.1 c0)] at hR
        refine App2.i (app64 (by simp; omega)) (Got.i (App2.i (app64 (by simp; omega)) (Num.n (by omega) (ih (i + 1) true _ (by omega) (by simp; omega) ?_))) (by omega) g)
        rw [hR]; simp [insG]
      · rw [if_neg (fun k => c0 (fun f => f k))] at hR
        refine Got.i (App2.i (app64 (by simp; omega)) (Num.n (by omega) (ih (i + 1) false _ (by omega) (by simp; omega) ?_))) (by omega) g
        rw [hR]; simp
theorem insG_A {a : api_Asset} {B : List KN} : ∀ {A : List KN}, (∀ y ∈ A, sLt y.A.ISIN a.ISIN) → insG a false (A ++ B) = A ++ insG a false B
  | [], _ => rfl
  | y :: A, h => by
    rw [List.cons_append, insG, if_neg (sLt_asymm (h y (by simp))), insG_A fun z hz => h z (by simp [hz])]; rfl
theorem insG_B {a : api_Asset} {B : List KN} (h : ∀ y ∈ B, sLt a.ISIN y.A.ISIN) : insG a false B = ⟨a, 0⟩ :: B := by
  cases B with
  | nil => rfl
  | cons y B => rw [insG, if_pos (h y (by simp))]
theorem Add_both {r : List KN} (h : Ord r) (hl : r.length ≤ 60) (a : api_Asset) : ∃ r' e, asset_Book_Add_r (bk r) a (e, bk r') ∧ lombardref13_Add_r r a (r', e) ∧ Ord r' ∧ r'.length ≤ r.length + 1 ∧ (∀ y ∈ r', y ∈ r ∨ y.A = a ∧ assetS a = 0) := by
  obtain ⟨A, B, rfl, hA, hB⟩ := splitK a.ISIN r h
  have h3 := List.pairwise_append.1 h
  by_cases c : assetS a = 0
  · cases k : hitK a.ISIN B with
    | true =>
      refine ⟨A ++ B, 7, asset_Book_Add_of ?_, lombardref13_Add_of ?_, h, by omega, fun y hy => .inl hy⟩
      · unfold asset_Book_Add_w
        refine Br.f rfl ⟨_, Asset_r a, Br.neg (by simpa using c) ⟨_, placeK hA hB (by omega), Br.t k (Rt.i rfl)⟩⟩
      · unfold lombardref13_Add_w
        refine ⟨_, RAsset_r a, Br.neg (by simpa using c) ⟨_, findK h hA hB (by omega), ?_⟩⟩
        rw [k, if_pos rfl]
        exact Br.pos (by omega) (Rt.i rfl)
    | false =>
      have mk := missK h3.2.1 hB k
      refine ⟨A ++ ⟨a, 0⟩ :: B, 0, asset_Book_Add_of ?_, lombardref13_Add_of ?_, ?_, by simp; omega, fun y hy => ?_⟩
      · unfold asset_Book_Add_w
        rw [lenM_eq]
        have la : (bk (A ++ B)).l.length = (A ++ B).length := by simp [bk]
        have lp : (bk (A ++ B)).prices.length = (A ++ B).length := by simp [bk]
        have hh : A.length ≤ (A ++ B).length := by simp
        refine Br.f rfl ⟨_, Asset_r a, Br.neg (by simpa using c) ⟨_, placeK hA hB (by omega), Br.f k (Br.neg (by omega) ⟨_, InsA_r (n := A.length) (by omega) (by omega), _, InsI_r (n := A.length) (by omega) (by omega), Rt.i ?_⟩)⟩⟩
        simp [bk]
      · unfold lombardref13_Add_w
        rw [lenM_eq]
        refine ⟨_, RAsset_r a, Br.neg (by simpa using c) ⟨_, findK h hA hB (by omega), ?_⟩⟩
        rw [k, if_neg (by decide)]
        refine Br.neg (by omega) (Br.neg (by omega) ?_)
        refine addK_l (R := A ++ ⟨a, 0⟩ :: B) (Q := fun v => lombardref13_Add_e (fun v_ => v_ = (A ++ (⟨a, 0⟩ : KN) :: B, 0)) (v, 0)) (by omega) (Rt.i rfl) (A ++ B).length 0 false [] (by omega) (by simp) ?_
        rw [List.drop_zero, List.nil_append, insG_A hA, insG_B mk]
      · refine List.pairwise_append.2 ⟨h3.1, List.pairwise_cons.2 ⟨mk, h3.2.1⟩, fun x hx z hz => ?_⟩
        rcases List.mem_cons.1 hz with rfl | hz
        · exact hA x hx
        · exact h3.2.2 x hx z hz
      · rcases List.mem_append.1 hy with hy | hy
        · exact .inl (by simp [hy])
        · rcases List.mem_cons.1 hy with rfl | hy
          · exact .inr ⟨rfl, c⟩
          · exact .inl (by simp [hy])
  · refine ⟨A ++ B, assetS a, asset_Book_Add_of ?_, lombardref13_Add_of ?_, h, by omega, fun y hy => .inl hy⟩
    · unfold asset_Book_Add_w
      exact Br.f rfl ⟨_, Asset_r a, Br.pos (by simpa using c) (Rt.i rfl)⟩
    · unfold lombardref13_Add_w
      exact ⟨_, RAsset_r a, Br.pos (by simpa using c) ⟨_, RAsset_r a, Rt.i rfl⟩⟩
/-! Where one is. -/
def idx (s : ByteArray) (r : List KN) : Nat := (r.takeWhile (fun y => decide (sLt y.A.ISIN s))).length
def kn (s : ByteArray) (r : List KN) : Bool := r.any (fun y => decide (y.A.ISIN = s))
theorem idx_s {s : ByteArray} {B : List KN} : ∀ {A : List KN}, (∀ y ∈ A, sLt y.A.ISIN s) → (∀ y ∈ B, ¬ sLt y.A.ISIN s) → idx s (A ++ B) = A.length
  | [], _, hB => by
    unfold idx
    cases B with
    | nil => rfl
    | cons y B => rw [List.nil_append, List.takeWhile_cons, if_neg (by simpa using hB y (by simp))]
  | y :: A, hA, hB => by
    have := idx_s (A := A) (fun z hz => hA z (by simp [hz])) hB
    unfold idx at this ⊢
    rw [List.cons_append, List.takeWhile_cons, if_pos (by simpa using hA y (by simp)), List.length_cons, this]; rfl
theorem kn_s {s : ByteArray} {A B : List KN} (h : Ord (A ++ B)) (hA : ∀ y ∈ A, sLt y.A.ISIN s) (hB : ∀ y ∈ B, ¬ sLt y.A.ISIN s) : kn s (A ++ B) = hitK s B := by
  have hb : Ord B := (List.pairwise_append.1 h).2.1
  unfold kn
  rw [List.any_append]
  have e1 : A.any (fun y => decide (y.A.ISIN = s)) = false := by
    rw [List.any_eq_false]
    intro y hy
    have := hA y hy
    simp only [decide_eq_true_eq]
    intro e; rw [e] at this; exact sLt_irrefl _ this
  rw [e1, Bool.false_or]
  cases c : hitK s B with
  | true =>
    cases B with
    | nil => cases c
    | cons y B => have c : decide (y.A.ISIN = s) = true := c; rw [List.any_cons, c]; rfl
  | false =>
    rw [List.any_eq_false]
    intro y hy
    have := missK hb hB c y hy
    simp only [decide_eq_true_eq]
    intro e; rw [e] at this; exact sLt_irrefl _ this
theorem place_i {r : List KN} (h : Ord r) (hl : r.length ≤ 1000000) (s : ByteArray) {p : List Int} {m : Bool} : asset_Book_place_r ⟨r.map (·.A), p, m⟩ s ((idx s r : Nat), kn s r) := by
  obtain ⟨A, B, rfl, hA, hB⟩ := splitK s r h
  rw [idx_s hA hB, kn_s h hA hB]
  exact placeK hA hB hl
theorem find_i {r : List KN} (h : Ord r) (hl : r.length ≤ 1000000) (s : ByteArray) : lombardref13_Find_r r s (if kn s r then ((idx s r : Nat) : Int) else -1) := by
  obtain ⟨A, B, rfl, hA, hB⟩ := splitK s r h
  rw [idx_s hA hB, kn_s h hA hB]
  exact findK h hA hB hl
theorem kn_idx {r : List KN} (h : Ord r) {s : ByteArray} (c : kn s r = true) : ∃ y, r[idx s r]? = some y ∧ y.A.ISIN = s := by
  obtain ⟨A, B, rfl, hA, hB⟩ := splitK s r h
  rw [kn_s h hA hB] at c
  rw [idx_s hA hB]
  cases B with
  | nil => cases c
  | cons y B => exact ⟨y, by simp, by simpa [hitK] using c⟩
def lk (s : ByteArray) (r : List KN) : Option KN := if kn s r then r[idx s r]? else none
theorem lk_cases {r : List KN} (h : Ord r) (s : ByteArray) : (kn s r = false ∧ lk s r = none) ∨ (∃ y, kn s r = true ∧ lk s r = some y ∧ r[idx s r]? = some y ∧ y.A.ISIN = s) := by
  unfold lk
  cases c : kn s r with
  | false => exact .inl ⟨rfl, rfl⟩
  | true =>
    obtain ⟨y, h1, h2⟩ := kn_idx h c
    exact .inr ⟨y, rfl, by rw [if_pos rfl]; exact h1, h1, h2⟩
def zA : api_Asset := ⟨ByteArray.empty, 0, 0, 0, ByteArray.empty⟩
def getS (s : ByteArray) (r : List KN) : api_Asset × Bool := match lk s r with
  | some y => (y.A, true)
  | none => (zA, false)
def priceS (s : ByteArray) (r : List KN) : Int × Bool := match lk s r with
  | some y => if y.Price = 0 then (0, false) else (y.Price, true)
  | none => (0, false)
theorem Get_r {r : List KN} (h : Ord r) (hl : r.length ≤ 1000000) (s : ByteArray) : asset_Book_Get_r (bk r) s (getS s r) := by
  refine asset_Book_Get_of ?_
  unfold asset_Book_Get_w getS
  refine ⟨_, place_i h hl s, ?_⟩
  rcases lk_cases h s with ⟨c, e⟩ | ⟨y, c, e, g, _⟩
  · rw [e]; exact Br.t (by rw [c]; rfl) (Rt.i rfl)
  · rw [e]
    have hi : idx s r < r.length := by
      rcases Nat.lt_or_ge (idx s r) r.length with k | k
      · exact k
      · rw [List.getElem?_eq_none k] at g; cases g
    exact Br.f (by rw [c]; rfl) (InL.i ⟨y.A, EltG.i (Rt.i rfl) (by show (r.map (·.A))[((idx s r : Nat) : Int).toNat]? = _; rw [Int.toNat_natCast, List.getElem?_map, g]; rfl)⟩ (by omega) (by show ((idx s r : Nat) : Int).toNat < (r.map (·.A)).length; simpa using hi))
theorem Price_r {r : List KN} (h : Ord r) (hl : r.length ≤ 1000000) (s : ByteArray) : asset_Book_Price_r (bk r) s (priceS s r) := by
  refine asset_Book_Price_of ?_
  unfold asset_Book_Price_w priceS
  refine ⟨_, place_i h hl s, ?_⟩
  rcases lk_cases h s with ⟨c, e⟩ | ⟨y, c, e, g, _⟩
  · rw [e]; exact Br.t (by rw [c]; rfl) (Rt.i rfl)
  · rw [e]
    have hi : idx s r < r.length := by
      rcases Nat.lt_or_ge (idx s r) r.length with k | k
      · exact k
      · rw [List.getElem?_eq_none k] at g; cases g
    have g2 : (bk r).prices[((idx s r : Nat) : Int).toNat]? = some y.Price := by show (r.map (·.Price))[((idx s r : Nat) : Int).toNat]? = _; rw [Int.toNat_natCast, List.getElem?_map, g]; rfl
    have h2 : ((idx s r : Nat) : Int).toNat < (bk r).prices.length := by show ((idx s r : Nat) : Int).toNat < (r.map (·.Price)).length; simpa using hi
    exact Br.f (by rw [c]; rfl) (InL.i ⟨y.Price, EltG.i (Br.i (fun c => Rt.i (if_pos c).symm) (fun c => InL.i (EltG.i (Rt.i (if_neg c).symm) g2) (by omega) h2)) g2⟩ (by omega) h2)
end Go.Proofs.Ytdljcgikknaffaa.Pure
