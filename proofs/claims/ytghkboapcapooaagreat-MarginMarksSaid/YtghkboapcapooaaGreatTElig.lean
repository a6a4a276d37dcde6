/- Comparing bytes. -/
import Derived.Test.YtghkboapcapooaaGreatTSortE
import Derived.Test.YtghkboapcapooaaGreatTIsin
import Derived.Test.YtghkboapcapooaaGreatRI
import Derived.Test.YtghkboapcapooaaGreatINAC
import Derived.Test.YtghkboapcapooaaGreatINIC
import Derived.Test.YtghkboapcapooaaGreatTRankR
set_option linter.unusedVariables false
set_option linter.unusedSimpArgs false
namespace Go.Proofs.YtghkboapcapooaaGreat.Pure
open Go Go.Ab Go.Stable Go.Proofs.YtghkboapcapooaaGreat.R
set_option linter.unusedVariables false
theorem cmpB_lt {a b : ByteArray} : cmpB a b < 0 ↔ sLt a b := by
  unfold cmpB
  by_cases h : sLt a b
  · rw [if_pos h]; simp [h]
  · rw [if_neg h]; by_cases k : sLt b a
    · rw [if_pos k]; simp [h]
    · rw [if_neg k]; simp [h]
theorem cmpB_eq {a b : ByteArray} : cmpB a b = 0 ↔ a = b := by
  unfold cmpB
  by_cases h : sLt a b
  · rw [if_pos h]; exact ⟨fun e => (by cases e), fun e => (by subst e; exact absurd h (sLt_irrefl _))⟩
  · rw [if_neg h]; by_cases k : sLt b a
    · rw [if_pos k]; exact ⟨fun e => (by cases e), fun e => (by subst e; exact absurd k (sLt_irrefl _))⟩
    · rw [if_neg k]; exact ⟨fun _ => sLt_tri h k, fun _ => rfl⟩
end Go.Proofs.YtghkboapcapooaaGreat.Pure
namespace Go.Proofs.YtghkboapcapooaaGreat.Pure
open Go Go.Ab Go.Proofs.YtghkboapcapooaaGreat.R
set_option linter.unusedVariables false
theorem app56 {n : Nat} (h : n ≤ 1000000) : App 56 n := ⟨by unfold maxLen; omega, by omega⟩
theorem app64 {n : Nat} (h : n ≤ 1000000) : App 64 n := ⟨by unfold maxLen; omega, by omega⟩
theorem InsA_r {a : List api_Asset} {x : api_Asset} {n : Nat} (h1 : n ≤ a.length) (hb : a.length ≤ 1000) : InsR Tryz.prog 39 5 api_Asset.enc a (n : Int) [x] (a.take n ++ x :: a.drop n) := by
  by_cases h : n < a.length
  · have := Con_insA (rows := a.map api_Asset.enc) (x := api_Asset.enc x) (i := n) (by simpa using h) (by simp; omega) (enters_of Tryz.func39 (by kernel_rfl) rfl)
    unfold InsR
    rw [show (a.take n ++ x :: a.drop n).map api_Asset.enc = (a.map api_Asset.enc).take n ++ [api_Asset.enc x] ++ (a.map api_Asset.enc).drop n by simp [List.map_take, List.map_drop]]
    exact this
  · have e : n = a.length := by omega
    subst e
    have : slices_Insert_api_Asset_api_Asset_r a (a.length : Int) [x] (a ++ [x]) := by
      refine slices_Insert_api_Asset_api_Asset_of ?_
      unfold slices_Insert_api_Asset_api_Asset_w
      exact CutX.i ⟨by omega, by omega⟩ (Br.neg (by simp [lenM]) (Br.pos (by simp [lenM]) (App2.i (app56 (by simp; omega)) (Rt.i rfl))))
    rw [List.take_length, List.drop_length]
    exact this
theorem InsI_r {a : List Int} {x : Int} {n : Nat} (h1 : n ≤ a.length) (hb : a.length ≤ 1000) : InsR Tryz.prog 40 1 eN a (n : Int) [x] (a.take n ++ x :: a.drop n) := by
  by_cases h : n < a.length
  · have := Con_insI (rows := a.map eN) (x := eN x) (i := n) (by simpa using h) (by simp; omega) (enters_of Tryz.func40 (by kernel_rfl) rfl)
    unfold InsR
    rw [show (a.take n ++ x :: a.drop n).map eN = (a.map eN).take n ++ [eN x] ++ (a.map eN).drop n by simp [List.map_take, List.map_drop]]
    exact this
  · have e : n = a.length := by omega
    subst e
    have : slices_Insert_int_int_r a (a.length : Int) [x] (a ++ [x]) := by
      refine slices_Insert_int_int_of ?_
      unfold slices_Insert_int_int_w
      exact CutX.i ⟨by omega, by omega⟩ (Br.neg (by simp [lenM]) (Br.pos (by simp [lenM]) (App2.i (app8 (by simp; omega)) (Rt.i rfl))))
    rw [List.take_length, List.drop_length]
    exact this
abbrev KN := lombardref13_Known
def Ord (r : List KN) : Prop := r.Pairwise (fun x y => sLt x.A.ISIN y.A.ISIN)
def bk (r : List KN) : asset_Book := ⟨r.map (·.A), r.map (·.Price), true⟩
theorem place_1A (x : api_Asset) (s : ByteArray) : asset_Book_place_1_r x s (cmpB x.ISIN s) := by
  refine asset_Book_place_1_of ?_
  unfold asset_Book_place_1_w
  exact ⟨_, Compare_string_r _ _, Rt.i rfl⟩
theorem bsA_l {A B : List api_Asset} {s : ByteArray} (hA : ∀ y ∈ A, sLt y.ISIN s) (hB : ∀ y ∈ B, ¬ sLt y.ISIN s) (hl : (A ++ B).length ≤ 1000000) {Q : Int → Prop} (q : Q (A.length : Nat)) :
    ∀ (n i j : Nat), j - i ≤ n → i ≤ A.length → A.length ≤ j → j ≤ (A ++ B).length → slices_BinarySearchFunc_api_Asset_api_Asset_string_f76_L0 (A ++ B) s Q i j := by
  intro n
  induction n with
  | zero =>
    intro i j hn hi hj hjl
    have e : i = A.length := by omega
    refine slices_BinarySearchFunc_api_Asset_api_Asset_string_f76_l0 ?_
    unfold slices_BinarySearchFunc_api_Asset_api_Asset_string_f76_w0
    exact Br.neg (by omega) (Lf.i (by rw [e]; exact q))
  | succ n ih =>
    intro i j hn hi hj hjl
    refine slices_BinarySearchFunc_api_Asset_api_Asset_string_f76_l0 ?_
    unfold slices_BinarySearchFunc_api_Asset_api_Asset_string_f76_w0
    by_cases c : i < j
    · rw [half (i := i) (j := j) (by omega), show (((i + j) / 2 : Nat) : Int) + 1 = (((i + j) / 2 + 1 : Nat) : Int) by omega]
      have hk : (i + j) / 2 < (A ++ B).length := by omega
      refine Br.pos (by omega) (Num.n (by omega) ⟨(A ++ B)[(i + j) / 2], Got.i ⟨_, place_1A _ _, Br.i (fun c1 => Num.n (by omega) ?_) (fun c1 => ?_)⟩ (by omega) (show (A ++ B)[(i + j) / 2]? = _ from List.getElem?_eq_getElem hk)⟩)
      · have c1 := cmpB_lt.1 c1
        have : (i + j) / 2 < A.length := Nat.lt_of_not_le fun h => by
          refine hB _ ?_ c1
          rw [List.getElem_append_right h]; exact List.getElem_mem _
        exact ih _ _ (by omega) (by omega) hj hjl
      · have c1 : ¬ sLt ((A ++ B)[(i + j) / 2]).ISIN s := fun h => c1 (cmpB_lt.2 h)
        have : A.length ≤ (i + j) / 2 := Nat.le_of_not_lt fun h => by
          refine c1 (hA _ ?_)
          rw [List.getElem_append_left h]; exact List.getElem_mem _
        exact ih _ _ (by omega) hi this (by omega)
    · have e : i = A.length := by omega
      exact Br.neg (by omega) (Lf.i (by rw [e]; exact q))
def hitK (s : ByteArray) : List KN → Bool
  | [] => false
  | y :: _ => decide (y.A.ISIN = s)
theorem placeK {A B : List KN} {s : ByteArray} (hA : ∀ y ∈ A, sLt y.A.ISIN s) (hB : ∀ y ∈ B, ¬ sLt y.A.ISIN s) (hl : (A ++ B).length ≤ 1000000) {p : List Int} {m : Bool} : asset_Book_place_r ⟨(A ++ B).map (·.A), p, m⟩ s ((A.length : Nat), hitK s B) := by
  refine asset_Book_place_of ?_
  unfold asset_Book_place_w
  refine ⟨((A.length : Nat), hitK s B), slices_BinarySearchFunc_api_Asset_api_Asset_string_f76_of ?_, Rt.i rfl⟩
  unfold slices_BinarySearchFunc_api_Asset_api_Asset_string_f76_w
  rw [lenM_eq]
  have hA' : ∀ y ∈ A.map (·.A), sLt y.ISIN s := by
    intro y hy; obtain ⟨z, hz, rfl⟩ := List.mem_map.1 hy; exact hA z hz
  have hB' : ∀ y ∈ B.map (·.A), ¬ sLt y.ISIN s := by
    intro y hy; obtain ⟨z, hz, rfl⟩ := List.mem_map.1 hy; exact hB z hz
  show slices_BinarySearchFunc_api_Asset_api_Asset_string_f76_L0 ((A ++ B).map (·.A)) s _ 0 ((((A ++ B).map (·.A)).length : Nat) : Int)
  rw [List.map_append]
  have la : (A.map (·.A)).length = A.length := by simp
  refine bsA_l hA' hB' (by simpa using hl) ?_ (A.map (·.A) ++ B.map (·.A)).length 0 (A.map (·.A) ++ B.map (·.A)).length (by omega) (by omega) (by simp) (Nat.le_refl _)
  rw [la]
  cases B with
  | nil => exact Br.neg (by simp) (Rt.i rfl)
  | cons y B =>
    refine Br.pos (by simp; omega) ⟨y.A, Got.i ⟨_, place_1A _ _, Rt.i ?_⟩ (by omega) (by show (A.map (·.A) ++ (y :: B).map (·.A))[((A.length : Nat) : Int).toNat]? = _; rw [Int.toNat_natCast, List.getElem?_append_right (by simp)]; simp)⟩
    unfold hitK
    congr 1
    rw [Bool.eq_iff_iff]
    simp [cmpB_eq]
theorem splitK (s : ByteArray) : ∀ (l : List KN), Ord l → ∃ A B, l = A ++ B ∧ (∀ y ∈ A, sLt y.A.ISIN s) ∧ (∀ y ∈ B, ¬ sLt y.A.ISIN s)
  | [], _ => ⟨[], [], rfl, by simp, by simp⟩
  | y :: l, h => by
    obtain ⟨h1, h2⟩ := List.pairwise_cons.1 h
    by_cases c : sLt y.A.ISIN s
    · obtain ⟨A, B, e, hA, hB⟩ := splitK s l h2
      refine ⟨y :: A, B, by rw [e]; rfl, fun z hz => ?_, hB⟩
      rcases List.mem_cons.1 hz with rfl | hz
      · exact c
      · exact hA z hz
    · refine ⟨[], y :: l, rfl, by simp, fun z hz => ?_⟩
      rcases List.mem_cons.1 hz with rfl | hz
      · exact c
      · exact fun k => c (sLt_trans (h1 z hz) k)
def findG (s : ByteArray) : List KN → Nat → Int
  | [], _ => -1
  | y :: l, i => if y.A.ISIN = s then i else findG s l (i + 1)
theorem find_l {a : List KN} {s : ByteArray} (hl : a.length ≤ 1000000) {P : Int → Prop} {Q0 : Int → Prop} {Q1 : Unit → Prop} (q0 : ∀ v, P v → Q0 v) (q1 : P (-1) → Q1 ()) : ∀ (n i : Nat), n + i = a.length → P (findG s (a.drop i) i) → lombardref13_Find_L0 a s Q0 Q1 (i : Int) := by
  intro n
  induction n with
  | zero =>
    intro i h p
    refine lombardref13_Find_l0 ?_
    unfold lombardref13_Find_w0
    rw [lenM_eq]
    rw [List.drop_of_length_le (by omega)] at p
    exact Br.neg (by omega) (Lf.i (q1 p))
  | succ n ih =>
    intro i h p
    have hs : i < a.length := by omega
    refine lombardref13_Find_l0 ?_
    unfold lombardref13_Find_w0
    rw [lenM_eq]
    rw [List.drop_eq_getElem_cons hs, findG] at p
    have g : a[(i : Int).toNat]? = some a[i] := by simp [hs]
    refine Br.pos (by omega) ⟨a[i], Got.i (Br.i (fun c => Lf.i (q0 _ ?_)) (fun c => Num.n (by omega) (ih (i + 1) (by omega) ?_))) (by omega) g⟩
    · rw [if_pos c] at p; exact p
    · rw [if_neg c] at p; exact p
theorem findG_no {s : ByteArray} : ∀ {l : List KN} {i : Nat}, (∀ y ∈ l, y.A.ISIN ≠ s) → findG s l i = -1
  | [], _, _ => rfl
  | y :: l, i, h => by rw [findG, if_neg (h y (by simp)), findG_no fun z hz => h z (by simp [hz])]
theorem findG_A {s : ByteArray} {B : List KN} : ∀ {A : List KN} {i : Nat}, (∀ y ∈ A, sLt y.A.ISIN s) → findG s (A ++ B) i = findG s B (i + A.length)
  | [], _, _ => rfl
  | y :: A, i, h => by
    have hy := h y (by simp)
    have : y.A.ISIN ≠ s := fun e => by rw [e] at hy; exact sLt_irrefl _ hy
    rw [List.cons_append, findG, if_neg this, findG_A fun z hz => h z (by simp [hz]), List.length_cons]
    congr 1; omega
theorem missK {s : ByteArray} {B : List KN} (h : Ord B) (hB : ∀ y ∈ B, ¬ sLt y.A.ISIN s) (c : hitK s B = false) : ∀ z ∈ B, sLt s z.A.ISIN := by
  cases B with
  | nil => simp
  | cons y B =>
    have c : y.A.ISIN ≠ s := by simpa [hitK] using c
    have h1 : sLt s y.A.ISIN := Decidable.byContradiction fun k => c (sLt_tri (hB y (by simp)) k)
    intro z hz
    rcases List.mem_cons.1 hz with rfl | hz
    · exact h1
    · exact sLt_trans h1 ((List.pairwise_cons.1 h).1 z hz)
theorem findK {A B : List KN} {s : ByteArray} (h : Ord (A ++ B)) (hA : ∀ y ∈ A, sLt y.A.ISIN s) (hB : ∀ y ∈ B, ¬ sLt y.A.ISIN s) (hl : (A ++ B).length ≤ 1000000) : lombardref13_Find_r (A ++ B) s (if hitK s B then ((A.length : Nat) : Int) else -1) := by
  refine lombardref13_Find_of ?_
  unfold lombardref13_Find_w
  refine find_l hl (P := fun v => v = if hitK s B then ((A.length : Nat) : Int) else -1) (fun v p => Rt.i p) (fun p => Rt.i p) (A ++ B).length 0 (by omega) ?_
  rw [List.drop_zero, findG_A hA, Nat.zero_add]
  have hb : Ord B := (List.pairwise_append.1 h).2.1
  cases c : hitK s B with
  | false =>
    rw [findG_no]
    · rfl
    · intro y hy e
      have := missK hb hB c y hy
      rw [e] at this; exact sLt_irrefl _ this
  | true =>
    cases B with
    | nil => cases c
    | cons y B =>
      have c : y.A.ISIN = s := by simpa [hitK] using c
      rw [findG, if_pos c]; rfl
/-! One more. -/
def insG (a : api_Asset) : Bool → List KN → List KN
  | true, l => l
  | false, [] => [⟨a, 0⟩]
  | false, y :: l => if sLt a.ISIN y.A.ISIN then ⟨a, 0⟩ :: y :: l else y :: insG a false l
theorem addK_l {r : List KN} {a : api_Asset} {R : List KN} {Q : List KN → Prop} (hl : r.length ≤ 1000) (hQ : Q R) : ∀ (n i : Nat) (d : Bool) (acc : List KN), n + i = r.length → acc.length ≤ i + d.toNat → R = acc ++ insG a d (r.drop i) →
    lombardref13_Add_L0 r a (fun (y3 : Bool × (List KN)) => Br (!y3.1) (App2 64 lombardref13_Known.enc y3.2 [(⟨a, 0⟩ : KN)] (Q (y3.2 ++ [(⟨a, 0⟩ : KN)]))) (Q y3.2)) d (i : Int) acc := by
  intro n
  induction n with
  | zero =>
    intro i d acc h ha hR
    have hd : d.toNat ≤ 1 := by cases d <;> decide
    refine lombardref13_Add_l0 ?_
    unfold lombardref13_Add_w0
    rw [lenM_eq]
    rw [List.drop_of_length_le (by omega)] at hR
    refine Br.neg (by omega) (Lf.i ?_)
    cases d with
    | true => exact Br.f rfl (by rw [hR] at hQ; simpa [insG] using hQ)
    | false => exact Br.t rfl (App2.i (app64 (by simp; omega)) (by rw [hR] at hQ; simpa [insG] using hQ))
  | succ n ih =>
    intro i d acc h ha hR
    have hd : d.toNat ≤ 1 := by cases d <;> decide
    have hs : i < r.length := by omega
    refine lombardref13_Add_l0 ?_
    unfold lombardref13_Add_w0
    rw [lenM_eq]
    rw [List.drop_eq_getElem_cons hs] at hR
    have g : r[(i : Int).toNat]? = some r[i] := by simp [hs]
    refine Br.pos (by omega) ?_
    cases d with
    | true =>
      simp only [insG] at hR
      simp only [Bool.toNat_true] at ha
      refine Br.f rfl ⟨r[i], Got.i (App2.i (app64 (by simp; omega)) (Num.n (by omega) (ih (i + 1) true _ (by omega) (by simp; omega) ?_))) (by omega) g⟩
      rw [hR]; simp [insG]
    | false =>
      simp only [insG] at hR
      simp only [Bool.toNat_false] at ha
      refine Br.t rfl ⟨r[i], Got.i (Br.i (fun c0 => ?_) (fun c0 => ?_)) (by omega) g⟩
      · rw [if_pos (Decidable.not_not.1 c0)] at hR
        refine App2.i (app64 (by simp; omega)) (Got.i (App2.i (app64 (by simp; omega)) (Num.n (by omega) (ih (i + 1) true _ (by omega) (by simp; omega) ?_))) (by omega) g)
        rw [hR]; simp [insG]
      · rw [if_neg (fun k => c0 (fun f => f k))] at hR
        refine Got.i (App2.i (app64 (by simp; omega)) (Num.n (by omega) (ih (i + 1) false _ (by omega) (by simp; omega) ?_))) (by omega) g
        rw [hR]; simp
theorem insG_A {a : api_Asset} {B : List KN} : ∀ {A : List KN}, (∀ y ∈ A, sLt y.A.ISIN a.ISIN) → insG a false (A ++ B) = A ++ insG a false B
  | [], _ => rfl
  | y :: A, h => by
    rw [List.cons_append, insG, if_neg (sLt_asymm (h y (by simp))), insG_A fun z hz => h z (by simp [hz])]; rfl
theorem insG_B {a : api_Asset} {B : List KN} (h : ∀ y ∈ B, sLt a.ISIN y.A.ISIN) : insG a false B = ⟨a, 0⟩ :: B := by
  cases B with
  | nil => rfl
  | cons y B => rw [insG, if_pos (h y (by simp))]
theorem Add_both {r : List KN} (h : Ord r) (hl : r.length ≤ 60) (a : api_Asset) : ∃ r' e, asset_Book_Add_r (bk r) a (e, bk r') ∧ lombardref13_Add_r r a (r', e) ∧ Ord r' ∧ r'.length ≤ r.length + 1 ∧ (∀ y ∈ r', y ∈ r ∨ y.A = a ∧ assetS a = 0) := by
  obtain ⟨A, B, rfl, hA, hB⟩ := splitK a.ISIN r h
  have h3 := List.pairwise_append.1 h
  by_cases c : assetS a = 0
  · cases k : hitK a.ISIN B with
    | true =>
      refine ⟨A ++ B, 7, asset_Book_Add_of ?_, lombardref13_Add_of ?_, h, by omega, fun y hy => .inl hy⟩
      · unfold asset_Book_Add_w
        refine Br.f rfl ⟨_, Asset_r a, Br.neg (by simpa using c) ⟨_, placeK hA hB (by omega), Br.t k (Rt.i rfl)⟩⟩
      · unfold lombardref13_Add_w
        refine ⟨_, RAsset_r a, Br.neg (by simpa using c) ⟨_, findK h hA hB (by omega), ?_⟩⟩
        rw [k, if_pos rfl]
        exact Br.pos (by omega) (Rt.i rfl)
    | false =>
      have mk := missK h3.2.1 hB k
      refine ⟨A ++ ⟨a, 0⟩ :: B, 0, asset_Book_Add_of ?_, lombardref13_Add_of ?_, ?_, by simp; omega, fun y hy => ?_⟩
      · unfold asset_Book_Add_w
        rw [lenM_eq]
        have la : (bk (A ++ B)).l.length = (A ++ B).length := by simp [bk]
        have lp : (bk (A ++ B)).prices.length = (A ++ B).length := by simp [bk]
        have hh : A.length ≤ (A ++ B).length := by simp
        refine Br.f rfl ⟨_, Asset_r a, Br.neg (by simpa using c) ⟨_, placeK hA hB (by omega), Br.f k (Br.neg (by omega) ⟨_, InsA_r (n := A.length) (by omega) (by omega), _, InsI_r (n := A.length) (by omega) (by omega), Rt.i ?_⟩)⟩⟩
        simp [bk]
      · unfold lombardref13_Add_w
        rw [lenM_eq]
        refine ⟨_, RAsset_r a, Br.neg (by simpa using c) ⟨_, findK h hA hB (by omega), ?_⟩⟩
        rw [k, if_neg (by decide)]
        refine Br.neg (by omega) (Br.neg (by omega) ?_)
        refine addK_l (R := A ++ ⟨a, 0⟩ :: B) (Q := fun v => lombardref13_Add_e (fun v_ => v_ = (A ++ (⟨a, 0⟩ : KN) :: B, 0)) (v, 0)) (by omega) (Rt.i rfl) (A ++ B).length 0 false [] (by omega) (by simp) ?_
        rw [List.drop_zero, List.nil_append, insG_A hA, insG_B mk]
      · refine List.pairwise_append.2 ⟨h3.1, List.pairwise_cons.2 ⟨mk, h3.2.1⟩, fun x hx z hz => ?_⟩
        rcases List.mem_cons.1 hz with rfl | hz
        · exact hA x hx
        · exact h3.2.2 x hx z hz
      · rcases List.mem_append.1 hy with hy | hy
        · exact .inl (by simp [hy])
        · rcases List.mem_cons.1 hy with rfl | hy
          · exact .inr ⟨rfl, c⟩
          · exact .inl (by simp [hy])
  · refine ⟨A ++ B, assetS a, asset_Book_Add_of ?_, lombardref13_Add_of ?_, h, by omega, fun y hy => .inl hy⟩
    · unfold asset_Book_Add_w
      exact Br.f rfl ⟨_, Asset_r a, Br.pos (by simpa using c) (Rt.i rfl)⟩
    · unfold lombardref13_Add_w
      exact ⟨_, RAsset_r a, Br.pos (by simpa using c) ⟨_, RAsset_r a, Rt.i rfl⟩⟩
/-! Where one is. -/
def idx (s : ByteArray) (r : List KN) : Nat := (r.takeWhile (fun y => decide (sLt y.A.ISIN s))).length
def kn (s : ByteArray) (r : List KN) : Bool := r.any (fun y => decide (y.A.ISIN = s))
theorem idx_s {s : ByteArray} {B : List KN} : ∀ {A : List KN}, (∀ y ∈ A, sLt y.A.ISIN s) → (∀ y ∈ B, ¬ sLt y.A.ISIN s) → idx s (A ++ B) = A.length
  | [], _, hB => by
    unfold idx
    cases B with
    | nil => rfl
    | cons y B => rw [List.nil_append, List.takeWhile_cons, if_neg (by simpa using hB y (by simp))]
  | y :: A, hA, hB => by
    have := idx_s (A := A) (fun z hz => hA z (by simp [hz])) hB
    unfold idx at this ⊢
    rw [List.cons_append, List.takeWhile_cons, if_pos (by simpa using hA y (by simp)), List.length_cons, this]; rfl
theorem kn_s {s : ByteArray} {A B : List KN} (h : Ord (A ++ B)) (hA : ∀ y ∈ A, sLt y.A.ISIN s) (hB : ∀ y ∈ B, ¬ sLt y.A.ISIN s) : kn s (A ++ B) = hitK s B := by
  have hb : Ord B := (List.pairwise_append.1 h).2.1
  unfold kn
  rw [List.any_append]
  have e1 : A.any (fun y => decide (y.A.ISIN = s)) = false := by
    rw [List.any_eq_false]
    intro y hy
    have := hA y hy
    simp only [decide_eq_true_eq]
    intro e; rw [e] at this; exact sLt_irrefl _ this
  rw [e1, Bool.false_or]
  cases c : hitK s B with
  | true =>
    cases B with
    | nil => cases c
    | cons y B => have c : decide (y.A.ISIN = s) = true := c; rw [List.any_cons, c]; rfl
  | false =>
    rw [List.any_eq_false]
    intro y hy
    have := missK hb hB c y hy
    simp only [decide_eq_true_eq]
    intro e; rw [e] at this; exact sLt_irrefl _ this
theorem place_i {r : List KN} (h : Ord r) (hl : r.length ≤ 1000000) (s : ByteArray) {p : List Int} {m : Bool} : asset_Book_place_r ⟨r.map (·.A), p, m⟩ s ((idx s r : Nat), kn s r) := by
  obtain ⟨A, B, rfl, hA, hB⟩ := splitK s r h
  rw [idx_s hA hB, kn_s h hA hB]
  exact placeK hA hB hl
theorem find_i {r : List KN} (h : Ord r) (hl : r.length ≤ 1000000) (s : ByteArray) : lombardref13_Find_r r s (if kn s r then ((idx s r : Nat) : Int) else -1) := by
  obtain ⟨A, B, rfl, hA, hB⟩ := splitK s r h
  rw [idx_s hA hB, kn_s h hA hB]
  exact findK h hA hB hl
theorem kn_idx {r : List KN} (h : Ord r) {s : ByteArray} (c : kn s r = true) : ∃ y, r[idx s r]? = some y ∧ y.A.ISIN = s := by
  obtain ⟨A, B, rfl, hA, hB⟩ := splitK s r h
  rw [kn_s h hA hB] at c
  rw [idx_s hA hB]
  cases B with
  | nil => cases c
  | cons y B => exact ⟨y, by simp, by simpa [hitK] using c⟩
def lk (s : ByteArray) (r : List KN) : Option KN := if kn s r then r[idx s r]? else none
theorem lk_cases {r : List KN} (h : Ord r) (s : ByteArray) : (kn s r = false ∧ lk s r = none) ∨ (∃ y, kn s r = true ∧ lk s r = some y ∧ r[idx s r]? = some y ∧ y.A.ISIN = s) := by
  unfold lk
  cases c : kn s r with
  | false => exact .inl ⟨rfl, rfl⟩
  | true =>
    obtain ⟨y, h1, h2⟩ := kn_idx h c
    exact .inr ⟨y, rfl, by rw [if_pos rfl]; exact h1, h1, h2⟩
def zA : api_Asset := ⟨ByteArray.empty, 0, 0, 0, ByteArray.empty⟩
def getS (s : ByteArray) (r : List KN) : api_Asset × Bool := match lk s r with
  | some y => (y.A, true)
  | none => (zA, false)
def priceS (s : ByteArray) (r : List KN) : Int × Bool := match lk s r with
  | some y => if y.Price = 0 then (0, false) else (y.Price, true)
  | none => (0, false)
theorem Get_r {r : List KN} (h : Ord r) (hl : r.length ≤ 1000000) (s : ByteArray) : asset_Book_Get_r (bk r) s (getS s r) := by
  refine asset_Book_Get_of ?_
  unfold asset_Book_Get_w getS
  refine ⟨_, place_i h hl s, ?_⟩
  rcases lk_cases h s with ⟨c, e⟩ | ⟨y, c, e, g, _⟩
  · rw [e]; exact Br.t (by rw [c]; rfl) (Rt.i rfl)
  · rw [e]
    have hi : idx s r < r.length := by
      rcases Nat.lt_or_ge (idx s r) r.length with k | k
      · exact k
      · rw [List.getElem?_eq_none k] at g; cases g
    exact Br.f (by rw [c]; rfl) (InL.i ⟨y.A, EltG.i (Rt.i rfl) (by show (r.map (·.A))[((idx s r : Nat) : Int).toNat]? = _; rw [Int.toNat_natCast, List.getElem?_map, g]; rfl)⟩ (by omega) (by show ((idx s r : Nat) : Int).toNat < (r.map (·.A)).length; simpa using hi))
theorem Price_r {r : List KN} (h : Ord r) (hl : r.length ≤ 1000000) (s : ByteArray) : asset_Book_Price_r (bk r) s (priceS s r) := by
  refine asset_Book_Price_of ?_
  unfold asset_Book_Price_w priceS
  refine ⟨_, place_i h hl s, ?_⟩
  rcases lk_cases h s with ⟨c, e⟩ | ⟨y, c, e, g, _⟩
  · rw [e]; exact Br.t (by rw [c]; rfl) (Rt.i rfl)
  · rw [e]
    have hi : idx s r < r.length := by
      rcases Nat.lt_or_ge (idx s r) r.length with k | k
      · exact k
      · rw [List.getElem?_eq_none k] at g; cases g
    have g2 : (bk r).prices[((idx s r : Nat) : Int).toNat]? = some y.Price := by show (r.map (·.Price))[((idx s r : Nat) : Int).toNat]? = _; rw [Int.toNat_natCast, List.getElem?_map, g]; rfl
    have h2 : ((idx s r : Nat) : Int).toNat < (bk r).prices.length := by show ((idx s r : Nat) : Int).toNat < (r.map (·.Price)).length; simpa using hi
    exact Br.f (by rw [c]; rfl) (InL.i ⟨y.Price, EltG.i (Br.i (fun c => Rt.i (if_pos c).symm) (fun c => InL.i (EltG.i (Rt.i (if_neg c).symm) g2) (by omega) h2)) g2⟩ (by omega) h2)
end Go.Proofs.YtghkboapcapooaaGreat.Pure
namespace Go.Proofs.YtghkboapcapooaaGreat.Pure
open Go Go.Ab Go.Proofs.YtghkboapcapooaaGreat.R
set_option linter.unusedVariables false
theorem idx_A {s : ByteArray} : ∀ {r q : List KN}, r.map (·.A) = q.map (·.A) → idx s r = idx s q ∧ kn s r = kn s q
  | [], [], _ => ⟨rfl, rfl⟩
  | [], _ :: _, h => by cases h
  | _ :: _, [], h => by cases h
  | x :: r, y :: q, h => by
    simp only [List.map_cons, List.cons.injEq] at h
    obtain ⟨h1, h2⟩ := h
    obtain ⟨e1, e2⟩ := idx_A (s := s) h2
    unfold idx at e1 ⊢
    unfold kn at e2 ⊢
    rw [List.takeWhile_cons, List.takeWhile_cons, List.any_cons, List.any_cons, e2, h1]
    refine ⟨?_, rfl⟩
    split
    · rw [List.length_cons, List.length_cons, e1]
    · rfl
theorem ord_A {r q : List KN} (h : Ord r) (e : r.map (·.A) = q.map (·.A)) : Ord q := by
  have h1 : (r.map (·.A)).Pairwise (fun x y => sLt x.ISIN y.ISIN) := List.pairwise_map.2 h
  rw [e] at h1
  exact (List.pairwise_map (f := fun x : KN => x.A) (R := fun x y => sLt x.ISIN y.ISIN)).1 h1
def setS (r : List KN) (p : api_Price) : List KN := match r[idx p.ISIN r]? with
  | some y => r.set (idx p.ISIN r) ⟨y.A, p.Price⟩
  | none => r
theorem setS_A (r : List KN) (p : api_Price) : (setS r p).map (·.A) = r.map (·.A) := by
  unfold setS
  split
  · rename_i y h
    rw [List.map_set]
    refine List.ext_getElem? fun i => ?_
    rw [List.getElem?_set]
    split
    · rename_i e
      subst e
      rw [List.getElem?_map, h]
      split
      · rfl
      · rename_i k
        have := (List.getElem?_eq_some_iff.1 h).1
        rw [List.length_map] at k
        exact absurd this k
    · rfl
  · rfl
theorem setsS_A : ∀ (p : List api_Price) (r : List KN), (p.foldl setS r).map (·.A) = r.map (·.A)
  | [], _ => rfl
  | x :: p, r => by rw [List.foldl_cons, setsS_A p, setS_A]
def errP (r : List KN) : List api_Price → Nat → Option (Int × Int)
  | [], _ => none
  | p :: l, i => if kn p.ISIN r = false then some (i, 21) else if p.Price < 1 then some (i, 31) else if p.Price > 4294967296 then some (i, 31) else errP r l (i + 1)
theorem set_l0 {r : List KN} (h : Ord r) (hl : r.length ≤ 1000000) {p : List api_Price} (hp : p.length ≤ 1000000) {Q0 : Int × Int → Prop} {Q1 : Unit → Prop} : ∀ (n i : Nat), n + i = p.length → (∀ v, errP r (p.drop i) i = some v → Q0 v) → (errP r (p.drop i) i = none → Q1 ()) → asset_Book_Set_L0 p (bk r) Q0 Q1 (i : Int) := by
  intro n
  induction n with
  | zero =>
    intro i hn q0 q1
    refine asset_Book_Set_l0 ?_
    unfold asset_Book_Set_w0
    rw [lenM_eq]
    rw [List.drop_of_length_le (by omega)] at q1
    exact Br.neg (by omega) (Lf.i (q1 rfl))
  | succ n ih =>
    intro i hn q0 q1
    have hi : i < p.length := by omega
    refine asset_Book_Set_l0 ?_
    unfold asset_Book_Set_w0
    rw [lenM_eq]
    rw [List.drop_eq_getElem_cons hi, errP] at q0 q1
    have g : p[(i : Int).toNat]? = some p[i] := by simp [hi]
    refine Br.pos (by omega) ⟨p[i], Got.i ⟨_, place_i h hl _, ?_⟩ (by omega) g⟩
    cases c : kn p[i].ISIN r with
    | false => exact Br.t rfl (Lf.i (q0 _ (by rw [if_pos c])))
    | true =>
      rw [c, if_neg (by decide)] at q0 q1
      refine Br.f rfl (Br.i (fun c1 => Lf.i (q0 _ (by rw [if_pos c1]))) (fun c1 => ?_))
      rw [if_neg c1] at q0 q1
      refine Br.i (fun c2 => Lf.i (q0 _ (by rw [if_pos c2]))) (fun c2 => ?_)
      rw [if_neg c2] at q0 q1
      exact Num.n (by omega) (ih (i + 1) (by omega) q0 q1)
theorem kn_at {r q : List KN} (h : Ord r) (e : q.map (·.A) = r.map (·.A)) {s : ByteArray} (c : kn s r = true) : ∃ y, q[idx s r]? = some y ∧ idx s r < q.length ∧ setS q = setS q := by
  obtain ⟨e1, e2⟩ := idx_A (s := s) e
  obtain ⟨y, h1, _⟩ := kn_idx (ord_A h e.symm) (by rw [e2]; exact c)
  rw [e1] at h1
  exact ⟨y, h1, (List.getElem?_eq_some_iff.1 h1).1, rfl⟩
theorem set_l1 {r : List KN} (h : Ord r) (hl : r.length ≤ 1000000) {p : List api_Price} (hp : p.length ≤ 1000000) {Q : List Int → Prop} : ∀ (n i : Nat) (q : List KN), n + i = p.length → q.map (·.A) = r.map (·.A) → errP r (p.drop i) i = none → Q (((p.drop i).foldl setS q).map (·.Price)) → asset_Book_Set_L1 p (bk r) Q (i : Int) (q.map (·.Price)) := by
  intro n
  induction n with
  | zero =>
    intro i q hn e ok hQ
    refine asset_Book_Set_l1 ?_
    unfold asset_Book_Set_w1
    rw [lenM_eq]
    rw [List.drop_of_length_le (by omega)] at hQ
    exact Br.neg (by omega) (Lf.i hQ)
  | succ n ih =>
    intro i q hn e ok hQ
    have hi : i < p.length := by omega
    refine asset_Book_Set_l1 ?_
    unfold asset_Book_Set_w1
    rw [lenM_eq]
    rw [List.drop_eq_getElem_cons hi, errP] at ok
    rw [List.drop_eq_getElem_cons hi, List.foldl_cons] at hQ
    have g : p[(i : Int).toNat]? = some p[i] := by simp [hi]
    cases c : kn p[i].ISIN r with
    | false => rw [if_pos c] at ok; cases ok
    | true =>
      rw [c, if_neg (by decide)] at ok
      have ok2 : errP r (p.drop (i + 1)) (i + 1) = none := by
        split at ok
        · cases ok
        · split at ok
          · cases ok
          · exact ok
      obtain ⟨y, h1, h2, _⟩ := kn_at h e c
      have g2 : (q.map (·.Price))[((idx p[i].ISIN r : Nat) : Int).toNat]? = some y.Price := by rw [Int.toNat_natCast, List.getElem?_map, h1]; rfl
      have e3 : ((q.map (·.Price)).set ((idx p[i].ISIN r : Nat) : Int).toNat p[i].Price) = (setS q p[i]).map (·.Price) := by
        unfold setS
        rw [(idx_A e).1, h1, Int.toNat_natCast, List.map_set]
      refine Br.pos (by omega) ⟨p[i], Got.i ⟨_, place_i h hl _, InL.i ⟨y.Price, EltS.i (Num.n (by omega) ?_) g2⟩ (by omega) (by rw [Int.toNat_natCast, List.length_map]; exact h2)⟩ (by omega) g⟩
      have := ih (i + 1) (setS q p[i]) (by omega) (by rw [setS_A, e]) ok2 hQ
      rw [← e3] at this
      exact this
theorem rset_l {r : List KN} (h : Ord r) (hl : r.length ≤ 1000000) {p : List api_Price} (hp : p.length ≤ 1000000) {Q0 : Int × Int → Prop} {Q1 : List KN → Prop} : ∀ (n i : Nat) (q : List KN), n + i = p.length → q.map (·.A) = r.map (·.A) → (∀ v, errP r (p.drop i) i = some v → Q0 v) → (errP r (p.drop i) i = none → Q1 ((p.drop i).foldl setS q)) → lombardref13_Set_L0 r p Q0 Q1 (i : Int) q := by
  intro n
  induction n with
  | zero =>
    intro i q hn e q0 q1
    refine lombardref13_Set_l0 ?_
    unfold lombardref13_Set_w0
    rw [lenM_eq]
    rw [List.drop_of_length_le (by omega)] at q1
    exact Br.neg (by omega) (Lf.i (q1 rfl))
  | succ n ih =>
    intro i q hn e q0 q1
    have hi : i < p.length := by omega
    refine lombardref13_Set_l0 ?_
    unfold lombardref13_Set_w0
    rw [lenM_eq]
    rw [List.drop_eq_getElem_cons hi, errP] at q0 q1
    rw [List.foldl_cons] at q1
    have g : p[(i : Int).toNat]? = some p[i] := by simp [hi]
    refine Br.pos (by omega) ⟨p[i], Got.i ⟨_, find_i h hl _, ?_⟩ (by omega) g⟩
    cases c : kn p[i].ISIN r with
    | false =>
      rw [if_neg (by decide)]
      exact Br.pos (by omega) (Lf.i (q0 _ (by rw [if_pos c])))
    | true =>
      rw [c, if_neg (by decide)] at q0 q1
      rw [if_pos rfl]
      refine Br.neg (by omega) (Got.i (Br.i (fun c1 => Lf.i (q0 _ (by rw [if_pos c1]))) (fun c1 => ?_)) (by omega) g)
      rw [if_neg c1] at q0 q1
      refine Got.i (Br.i (fun c2 => Lf.i (q0 _ (by rw [if_pos c2]))) (fun c2 => ?_)) (by omega) g
      rw [if_neg c2] at q0 q1
      obtain ⟨y, h1, h2, _⟩ := kn_at h e c
      have g2 : q[((idx p[i].ISIN r : Nat) : Int).toNat]? = some y := by rw [Int.toNat_natCast]; exact h1
      have e3 : q.set ((idx p[i].ISIN r : Nat) : Int).toNat ⟨y.A, p[i].Price⟩ = setS q p[i] := by
        unfold setS
        rw [(idx_A e).1, h1, Int.toNat_natCast]
      refine Got.i (InL.i ⟨y, EltS.i (Num.n (by omega) ?_) g2⟩ (by omega) (by rw [Int.toNat_natCast]; exact h2)) (by omega) g
      rw [e3]
      exact ih (i + 1) (setS q p[i]) (by omega) (by rw [setS_A, e]) q0 q1
theorem Set_both {r : List KN} (h : Ord r) (hl : r.length ≤ 1000) {p : List api_Price} (hp : p.length ≤ 1000) : ∃ q n e, asset_Book_Set_r (bk r) p (n, e, bk q) ∧ lombardref13_Set_r r p (q, n, e) ∧ q.map (·.A) = r.map (·.A) := by
  cases k : errP r p 0 with
  | some v =>
    refine ⟨r, v.1, v.2, asset_Book_Set_of ?_, lombardref13_Set_of ?_, rfl⟩
    · unfold asset_Book_Set_w
      exact Br.f rfl (set_l0 h (by omega) (by omega) p.length 0 (by omega) (fun u hu => Rt.i (by rw [List.drop_zero] at hu; have : some v = some u := k.symm.trans hu; cases this; rfl)) (fun hu => by rw [List.drop_zero] at hu; have : some v = none := k.symm.trans hu; cases this))
    · unfold lombardref13_Set_w
      refine ApZ.i (app64 (by omega)) (rset_l h (by omega) (by omega) p.length 0 r (by omega) rfl (fun u hu => Rt.i (by rw [List.drop_zero] at hu; have : some v = some u := k.symm.trans hu; cases this; rfl)) (fun hu => by rw [List.drop_zero] at hu; have : some v = none := k.symm.trans hu; cases this))
  | none =>
    refine ⟨p.foldl setS r, (p.length : Nat), 0, asset_Book_Set_of ?_, lombardref13_Set_of ?_, setsS_A _ _⟩
    · unfold asset_Book_Set_w
      rw [lenM_eq]
      refine Br.f rfl (set_l0 h (by omega) (by omega) p.length 0 (by omega) (fun u hu => by rw [List.drop_zero] at hu; have : none = some u := k.symm.trans hu; cases this) (fun _ => ?_))
      refine set_l1 h (by omega) (by omega) p.length 0 r (by omega) rfl (by rw [List.drop_zero]; exact k) (Rt.i ?_)
      rw [List.drop_zero]
      unfold bk
      rw [setsS_A]
    · unfold lombardref13_Set_w
      rw [lenM_eq]
      refine ApZ.i (app64 (by omega)) (rset_l h (by omega) (by omega) p.length 0 r (by omega) rfl (fun u hu => by rw [List.drop_zero] at hu; have : none = some u := k.symm.trans hu; cases this) (fun _ => Rt.i ?_))
      rw [List.drop_zero]
/-! The haircut. -/
def leftS (m day : Int) : Int := if day < 0 then -1 else if day > 200000 then -1 else m - day
theorem Left_r {a : api_Asset} {day : Int} (h : 0 ≤ a.Maturity ∧ a.Maturity ≤ 200000) : asset_Left_r a day (leftS a.Maturity day) := by
  refine asset_Left_of ?_
  unfold asset_Left_w leftS
  refine Br.i (fun c => Rt.i (by rw [if_pos c])) (fun c => Br.i (fun c2 => Rt.i (by rw [if_neg c, if_pos c2])) (fun c2 => Num.n (by omega) (Rt.i (by rw [if_neg c, if_neg c2]))))
theorem RLeft_r {a : api_Asset} {day : Int} (h : 0 ≤ a.Maturity ∧ a.Maturity ≤ 200000) : lombardref13_Left_r a day (leftS a.Maturity day) := by
  refine lombardref13_Left_of ?_
  unfold lombardref13_Left_w leftS
  refine Br.i (fun c => Rt.i (by rw [if_pos c])) (fun c => Br.i (fun c2 => Rt.i (by rw [if_neg c, if_pos c2])) (fun c2 => Num.n (by omega) (Rt.i (by rw [if_neg c, if_neg c2]))))
def cutS (left rt : Int) : List api_Cut → Int × Bool
  | [] => (0, false)
  | c :: l => if left ≤ c.Days ∧ rt ≤ c.Rating then (c.Cut, true) else cutS left rt l
def ofS (b : api_Basket) (a : api_Asset) (day : Int) : Int × Bool := if leftS a.Maturity day < 0 then (0, false) else cutS (leftS a.Maturity day) a.Rating b.Cuts
theorem of_l {left : Int} {b : api_Basket} {a : api_Asset} (hb : b.Cuts.length ≤ 1000000) {P : Int × Bool → Prop} {Q0 : Int → Prop} {Q1 : Unit → Prop} (q0 : ∀ v, P (v, true) → Q0 v) (q1 : P (0, false) → Q1 ()) : ∀ (n i : Nat), n + i = b.Cuts.length → P (cutS left a.Rating (b.Cuts.drop i)) → haircut_Of_L0 left b a Q0 Q1 (i : Int) := by
  intro n
  induction n with
  | zero =>
    intro i hn p
    refine haircut_Of_l0 ?_
    unfold haircut_Of_w0
    rw [lenM_eq]
    rw [List.drop_of_length_le (by omega)] at p
    exact Br.neg (by omega) (Lf.i (q1 p))
  | succ n ih =>
    intro i hn p
    have hi : i < b.Cuts.length := by omega
    refine haircut_Of_l0 ?_
    unfold haircut_Of_w0
    rw [lenM_eq]
    rw [List.drop_eq_getElem_cons hi, cutS] at p
    have g : b.Cuts[(i : Int).toNat]? = some b.Cuts[i] := by simp [hi]
    refine Br.pos (by omega) ⟨b.Cuts[i], Got.i (Br.i (fun c1 => Br.i (fun c2 => Lf.i (q0 _ ?_)) (fun c2 => Num.n (by omega) (ih (i + 1) (by omega) ?_))) (fun c1 => Num.n (by omega) (ih (i + 1) (by omega) ?_))) (by omega) g⟩
    · rw [if_pos ⟨c1, c2⟩] at p; exact p
    · rw [if_neg (fun k => c2 k.2)] at p; exact p
    · rw [if_neg (fun k => c1 k.1)] at p; exact p
theorem rof_l {left : Int} {b : api_Basket} {a : api_Asset} (hb : b.Cuts.length ≤ 1000000) {P : Int × Bool → Prop} {Q0 : Int → Prop} {Q1 : Unit → Prop} (q0 : ∀ v, P (v, true) → Q0 v) (q1 : P (0, false) → Q1 ()) : ∀ (n i : Nat), n + i = b.Cuts.length → P (if left < 0 then (0, false) else cutS left a.Rating (b.Cuts.drop i)) → lombardref15_Of_L0 left b a Q0 Q1 (i : Int) := by
  intro n
  induction n with
  | zero =>
    intro i hn p
    refine lombardref15_Of_l0 ?_
    unfold lombardref15_Of_w0
    rw [lenM_eq]
    rw [List.drop_of_length_le (by omega)] at p
    refine Br.neg (by omega) (Lf.i (q1 ?_))
    split at p <;> exact p
  | succ n ih =>
    intro i hn p
    have hi : i < b.Cuts.length := by omega
    refine lombardref15_Of_l0 ?_
    unfold lombardref15_Of_w0
    rw [lenM_eq]
    have g : b.Cuts[(i : Int).toNat]? = some b.Cuts[i] := by simp [hi]
    refine Br.pos (by omega) (Br.i (fun c0 => ?_) (fun c0 => Lf.i (q1 (by rw [if_pos (by omega)] at p; exact p))))
    have ng : ¬ left < 0 := by omega
    rw [if_neg ng, List.drop_eq_getElem_cons hi, cutS] at p
    refine ⟨b.Cuts[i], Got.i (Br.i (fun c1 => Got.i (Br.i (fun c2 => Got.i (Lf.i (q0 _ ?_)) (by omega) g) (fun c2 => Num.n (by omega) (ih (i + 1) (by omega) ?_))) (by omega) g) (fun c1 => Num.n (by omega) (ih (i + 1) (by omega) ?_))) (by omega) g⟩
    · rw [if_pos ⟨by omega, by omega⟩] at p; exact p
    · rw [if_neg (fun k => c2 (by omega))] at p; rw [if_neg ng]; exact p
    · rw [if_neg (fun k => c1 (by omega))] at p; rw [if_neg ng]; exact p
theorem HOf_r {b : api_Basket} {a : api_Asset} {day : Int} (hb : b.Cuts.length ≤ 1000000) (h : 0 ≤ a.Maturity ∧ a.Maturity ≤ 200000) : haircut_Of_r b a day (ofS b a day) := by
  refine haircut_Of_of ?_
  unfold haircut_Of_w ofS
  refine ⟨_, Left_r h, Br.i (fun c => Rt.i (by rw [if_pos c])) (fun c => ?_)⟩
  rw [if_neg c]
  exact of_l hb (P := fun v => v = cutS (leftS a.Maturity day) a.Rating b.Cuts) (fun v p => Rt.i p) (fun p => Rt.i p) b.Cuts.length 0 (by omega) (by rw [List.drop_zero])
theorem ROf_r {b : api_Basket} {a : api_Asset} {day : Int} (hb : b.Cuts.length ≤ 1000000) (h : 0 ≤ a.Maturity ∧ a.Maturity ≤ 200000) : lombardref15_Of_r b a day (ofS b a day) := by
  refine lombardref15_Of_of ?_
  unfold lombardref15_Of_w ofS
  exact ⟨_, RLeft_r h, rof_l hb (P := fun v => v = if leftS a.Maturity day < 0 then (0, false) else cutS (leftS a.Maturity day) a.Rating b.Cuts) (fun v p => Rt.i p) (fun p => Rt.i p) b.Cuts.length 0 (by omega) (by rw [List.drop_zero])⟩
/-! What a lot's cover hangs on. -/
def zI : haircut_Item := ⟨⟨ByteArray.empty, 0⟩, ⟨ByteArray.empty, 0, 0, 0, ByteArray.empty⟩, 0, 0⟩
def itemS (r : List KN) (b : api_Basket) (x : api_Lot) (day : Int) : haircut_Item × Int := match lk x.ISIN r with
  | none => (zI, 21)
  | some y => if y.Price = 0 then (zI, 31) else if (ofS b y.A day).2 = false then (zI, 23) else if x.Qty < 0 then (zI, 1) else if x.Qty > 1125899906842624 then (zI, 1) else (⟨x, y.A, y.Price, (ofS b y.A day).1⟩, 0)
def Fine (r : List KN) : Prop := Ord r ∧ r.length ≤ 1000 ∧ ∀ y ∈ r, assetS y.A = 0
theorem lk_mem {r : List KN} {s : ByteArray} {y : KN} (h : lk s r = some y) : y ∈ r := by
  unfold lk at h
  split at h
  · exact List.mem_of_getElem? h
  · cases h
theorem Find_r {r : List KN} (h : Fine r) {b : api_Basket} (hb : b.Cuts.length ≤ 1000000) (x : api_Lot) (day : Int) : haircut_Find_r (bk r) b x day (itemS r b x day) := by
  obtain ⟨h1, h2, h3⟩ := h
  refine haircut_Find_of ?_
  unfold haircut_Find_w
  refine ⟨_, Get_r h1 (by omega) _, ?_⟩
  unfold itemS getS
  cases e : lk x.ISIN r with
  | none => exact Br.t rfl (Rt.i rfl)
  | some y =>
    have ok := asset_ok (h3 y (lk_mem e))
    refine Br.f rfl ⟨_, Price_r h1 (by omega) _, ?_⟩
    unfold priceS
    rw [e]
    show Br (!(if y.Price = 0 then ((0 : Int), false) else (y.Price, true)).2) _ _
    by_cases c : y.Price = 0
    · simp only [if_pos c]
      exact Br.t rfl (Rt.i rfl)
    · simp only [if_neg c]
      refine Br.f rfl ⟨_, HOf_r hb ⟨by omega, by omega⟩, ?_⟩
      show Br (!(ofS b y.A day).2) _ _
      cases c2 : (ofS b y.A day).2 with
      | false => exact Br.t rfl (Rt.i (by simp; rfl))
      | true =>
        refine Br.f rfl (Br.i (fun c3 => Rt.i (by simp [c3]; rfl)) (fun c3 => Br.i (fun c4 => Rt.i (by simp [c3, c4]; rfl)) (fun c4 => Rt.i (by simp [c3, c4]))))
theorem RFind_r {r : List KN} (h : Fine r) {b : api_Basket} (hb : b.Cuts.length ≤ 1000000) (x : api_Lot) (day : Int) : lombardref15_Find_r r b x day (toR (itemS r b x day).1, (itemS r b x day).2) := by
  obtain ⟨h1, h2, h3⟩ := h
  refine lombardref15_Find_of ?_
  unfold lombardref15_Find_w
  refine ⟨_, find_i h1 (by omega) _, ?_⟩
  unfold itemS
  rcases lk_cases h1 x.ISIN with ⟨k, e⟩ | ⟨y, k, e, g, _⟩
  · rw [e, k, if_neg (by decide)]
    exact Br.pos (by omega) (Rt.i rfl)
  · have ok := asset_ok (h3 y (lk_mem e))
    rw [e, k, if_pos rfl]
    have g2 : r[((idx x.ISIN r : Nat) : Int).toNat]? = some y := by rw [Int.toNat_natCast]; exact g
    refine Br.neg (by omega) ⟨y, Got.i (Br.i (fun c => Rt.i (by simp only [if_pos c]; rfl)) (fun c => ?_)) (by omega) g2⟩
    simp only [if_neg c]
    refine Got.i ⟨_, ROf_r hb ⟨by omega, by omega⟩, ?_⟩ (by omega) g2
    show Br (!(ofS b y.A day).2) _ _
    cases c2 : (ofS b y.A day).2 with
    | false => exact Br.t rfl (Rt.i (by simp; rfl))
    | true =>
      refine Br.f rfl (Br.i (fun c3 => Rt.i (by simp [c3]; rfl)) (fun c3 => Br.i (fun c4 => Rt.i (by simp [c3, c4]; rfl)) (fun c4 => Got.i (Got.i (Rt.i (by simp [c3, c4]; rfl)) (by omega) g2) (by omega) g2)))
end Go.Proofs.YtghkboapcapooaaGreat.Pure
namespace Go.Proofs.YtghkboapcapooaaGreat.Pure
open Go Go.Ab Go.Stable Go.Proofs.YtghkboapcapooaaGreat.R
set_option linter.unusedVariables false
theorem Less_int_r (a b : Int) : cmp_Less_int_r a b (decide (a < b)) := by
  refine cmp_Less_int_of ?_
  unfold cmp_Less_int_w
  exact ⟨_, isNaN_int_r a, Br.f rfl (Rt.i rfl)⟩
theorem bsI_l {A B : List Int} {s : Int} (hA : ∀ y ∈ A, y < s) (hB : ∀ y ∈ B, ¬ y < s) (hl : (A ++ B).length ≤ 1000000) {Q : Int → Prop} (q : Q (A.length : Nat)) :
    ∀ (n i j : Nat), j - i ≤ n → i ≤ A.length → A.length ≤ j → j ≤ (A ++ B).length → slices_BinarySearch_int_int_L0 (A ++ B) s Q i j := by
  intro n
  induction n with
  | zero =>
    intro i j hn hi hj hjl
    have e : i = A.length := by omega
    refine slices_BinarySearch_int_int_l0 ?_
    unfold slices_BinarySearch_int_int_w0
    exact Br.neg (by omega) (Lf.i (by rw [e]; exact q))
  | succ n ih =>
    intro i j hn hi hj hjl
    refine slices_BinarySearch_int_int_l0 ?_
    unfold slices_BinarySearch_int_int_w0
    by_cases c : i < j
    · rw [half (i := i) (j := j) (by omega), show (((i + j) / 2 : Nat) : Int) + 1 = (((i + j) / 2 + 1 : Nat) : Int) by omega]
      have hk : (i + j) / 2 < (A ++ B).length := by omega
      refine Br.pos (by omega) (Num.n (by omega) ⟨(A ++ B)[(i + j) / 2], Got.i ⟨_, Less_int_r _ _, Br.i (fun c1 => Num.n (by omega) ?_) (fun c1 => ?_)⟩ (by omega) (show (A ++ B)[(i + j) / 2]? = _ from List.getElem?_eq_getElem hk)⟩)
      · have : (i + j) / 2 < A.length := Nat.lt_of_not_le fun h => by
          refine hB _ ?_ c1
          rw [List.getElem_append_right h]; exact List.getElem_mem _
        exact ih _ _ (by omega) (by omega) hj hjl
      · have : A.length ≤ (i + j) / 2 := Nat.le_of_not_lt fun h => by
          refine c1 (hA _ ?_)
          rw [List.getElem_append_left h]; exact List.getElem_mem _
        exact ih _ _ (by omega) hi this (by omega)
    · have e : i = A.length := by omega
      exact Br.neg (by omega) (Lf.i (by rw [e]; exact q))
theorem splitI (s : Int) : ∀ (l : List Int), l.Pairwise (· < ·) → ∃ A B, l = A ++ B ∧ (∀ y ∈ A, y < s) ∧ (∀ y ∈ B, ¬ y < s) ∧ ∀ y ∈ B.drop 1, s < y
  | [], _ => ⟨[], [], rfl, by simp, by simp, by simp⟩
  | y :: l, h => by
    obtain ⟨h1, h2⟩ := List.pairwise_cons.1 h
    by_cases c : y < s
    · obtain ⟨A, B, e, hA, hB, hC⟩ := splitI s l h2
      refine ⟨y :: A, B, by rw [e]; rfl, fun z hz => ?_, hB, hC⟩
      rcases List.mem_cons.1 hz with rfl | hz
      · exact c
      · exact hA z hz
    · refine ⟨[], y :: l, rfl, by simp, fun z hz => ?_, fun z hz => ?_⟩
      · rcases List.mem_cons.1 hz with rfl | hz
        · exact c
        · have := h1 z hz; omega
      · have := h1 z (by simpa using hz); omega
theorem bsI_r {l : List Int} (h : l.Pairwise (· < ·)) (hl : l.length ≤ 1000000) (s : Int) : ∃ k, slices_BinarySearch_int_int_r l s (k, decide (s ∈ l)) := by
  obtain ⟨A, B, rfl, hA, hB, hC⟩ := splitI s l h
  refine ⟨(A.length : Nat), slices_BinarySearch_int_int_of ?_⟩
  unfold slices_BinarySearch_int_int_w
  rw [lenM_eq]
  refine bsI_l hA hB hl ?_ (A ++ B).length 0 (A ++ B).length (by omega) (by omega) (by simp) (Nat.le_refl _)
  have nA : s ∉ A := fun k => by have := hA s k; omega
  cases B with
  | nil =>
    refine Br.neg (by simp) (Rt.i ?_)
    rw [decide_eq_false (by simpa using nA)]
  | cons y B =>
    have g : (A ++ y :: B)[((A.length : Nat) : Int).toNat]? = some y := by rw [Int.toNat_natCast, List.getElem?_append_right (Nat.le_refl _)]; simp
    refine Br.pos (by simp; omega) ⟨y, Got.i (Br.i (fun c => Rt.i ?_) (fun c => Got.i ⟨_, slices_isNaN_int_of (v := false) (by unfold slices_isNaN_int_w; exact Rt.i (by simp)), Br.f rfl (Rt.i ?_)⟩ (by omega) g)) (by omega) g⟩
    · rw [decide_eq_true (by simp [c])]
    · rw [decide_eq_false]
      intro k
      rcases List.mem_append.1 k with k | k
      · exact nA k
      · rcases List.mem_cons.1 k with k | k
        · exact c k.symm
        · have := hC s (by simpa using k); omega
/-! What a basket says of a security. -/
def whyS (b : api_Basket) (a : api_Asset) (day : Int) : Int :=
  if a.Currency ≠ b.Currency then 1 else if a.Rating > b.Rating then 2 else if leftS a.Maturity day < 1 then 3 else if leftS a.Maturity day < b.Least then 3 else if leftS a.Maturity day > b.Most then 4 else if a.Issuer ∈ b.Barred then 5 else 0
structure Rules (b : api_Basket) : Prop where
  cuts : b.Cuts.length ≤ 64
  bl : b.Barred.length ≤ 64
  bar : b.Barred.Pairwise (· < ·)
theorem Why_r {b : api_Basket} (hb : Rules b) {a : api_Asset} {day : Int} (h : 0 ≤ a.Maturity ∧ a.Maturity ≤ 200000) : basket_Why_r b a day (whyS b a day) := by
  refine basket_Why_of ?_
  unfold basket_Why_w whyS
  obtain ⟨k, hk⟩ := bsI_r hb.bar (by have := hb.bl; omega) a.Issuer
  refine ⟨_, Left_r h, _, hk, Br.i (fun c => Rt.i (by rw [if_pos c])) (fun c => ?_)⟩
  rw [if_neg c]
  refine Br.i (fun c => Rt.i (by rw [if_pos c])) (fun c => ?_)
  rw [if_neg c]
  refine Br.i (fun c => Rt.i (by rw [if_pos c])) (fun c => ?_)
  rw [if_neg c]
  refine Br.i (fun c => Rt.i (by rw [if_pos c])) (fun c => ?_)
  rw [if_neg c]
  refine Br.i (fun c => Rt.i (by rw [if_pos c])) (fun c => ?_)
  rw [if_neg c]
  exact Br.i (fun c => Rt.i (by rw [if_pos c])) (fun c => Rt.i (by rw [if_neg c]))
theorem has_l {l : List Int} {s : Int} (hl : l.length ≤ 1000000) {Q0 Q1 : Unit → Prop} : ∀ (n i : Nat), n + i = l.length → (s ∈ l.drop i → Q0 ()) → (s ∉ l.drop i → Q1 ()) → lombardref14_has_L0 l s Q0 Q1 (i : Int) := by
  intro n
  induction n with
  | zero =>
    intro i h q0 q1
    refine lombardref14_has_l0 ?_
    unfold lombardref14_has_w0
    rw [lenM_eq]
    rw [List.drop_of_length_le (by omega)] at q1
    exact Br.neg (by omega) (Lf.i (q1 (by simp)))
  | succ n ih =>
    intro i h q0 q1
    have hi : i < l.length := by omega
    refine lombardref14_has_l0 ?_
    unfold lombardref14_has_w0
    rw [lenM_eq]
    rw [List.drop_eq_getElem_cons hi] at q0 q1
    have g : l[(i : Int).toNat]? = some l[i] := by simp [hi]
    refine Br.pos (by omega) ⟨l[i], Got.i (Br.i (fun c => Lf.i (q0 (by rw [c]; exact List.mem_cons_self))) (fun c => Num.n (by omega) (ih (i + 1) (by omega) (fun k => q0 (List.mem_cons_of_mem _ k)) (fun k => q1 (fun k2 => ?_))))) (by omega) g⟩
    rcases List.mem_cons.1 k2 with k2 | k2
    · exact c k2.symm
    · exact k k2
theorem has_r {l : List Int} (hl : l.length ≤ 1000000) (s : Int) : lombardref14_has_r l s (decide (s ∈ l)) := by
  refine lombardref14_has_of ?_
  unfold lombardref14_has_w
  refine has_l hl l.length 0 (by omega) (fun k => Rt.i ?_) (fun k => Rt.i ?_)
  · rw [List.drop_zero] at k; exact (decide_eq_true k).symm
  · rw [List.drop_zero] at k; exact (decide_eq_false k).symm
theorem RWhy_r {b : api_Basket} (hb : Rules b) {a : api_Asset} {day : Int} (h : 0 ≤ a.Maturity ∧ a.Maturity ≤ 200000) : lombardref14_Why_r b a day (whyS b a day) := by
  refine lombardref14_Why_of ?_
  unfold lombardref14_Why_w whyS
  refine Br.i (fun c => Rt.i (by rw [if_pos c])) (fun c => ?_)
  rw [if_neg c]
  refine Br.i (fun c => Rt.i (by rw [if_pos c])) (fun c => ?_)
  rw [if_neg c]
  refine ⟨_, RLeft_r h, ?_⟩
  refine Br.i (fun c => Rt.i (by rw [if_pos c])) (fun c => ?_)
  rw [if_neg c]
  refine Br.i (fun c => Rt.i (by rw [if_pos c])) (fun c => ?_)
  rw [if_neg c]
  refine Br.i (fun c => Rt.i (by rw [if_pos c])) (fun c => ?_)
  rw [if_neg c]
  refine ⟨_, has_r (by have := hb.bl; omega) a.Issuer, ?_⟩
  exact Br.i (fun c => Rt.i (by rw [if_pos c])) (fun c => Rt.i (by rw [if_neg c]))
theorem Fits_r {b : api_Basket} (hb : Rules b) {a : api_Asset} {day : Int} (h : 0 ≤ a.Maturity ∧ a.Maturity ≤ 200000) : basket_Fits_r b a day (whyS b a day == 0) := by
  refine basket_Fits_of ?_
  unfold basket_Fits_w
  exact ⟨_, Why_r hb h, Rt.i rfl⟩
/-! Which lots. -/
section
variable (r : List KN) (b : api_Basket) (day : Int)
def takeS (x : api_Lot) : Bool := decide ((itemS r b x day).2 = 0) && (whyS b (itemS r b x day).1.Asset day == 0)
def inL (l : List api_Lot) : List haircut_Item := (l.filter (takeS r b day)).map (fun x => (itemS r b x day).1)
def outL (l : List api_Lot) : List api_Lot := l.filter (fun x => !takeS r b day x)
end
theorem app24b {n : Nat} (h : n ≤ 3000000) : App 24 n := ⟨by unfold maxLen; omega, by omega⟩
section
variable {r : List KN} {b : api_Basket} {day : Int}
theorem item_ok (h : Fine r) {x : api_Lot} (e : (itemS r b x day).2 = 0) : 0 ≤ (itemS r b x day).1.Asset.Maturity ∧ (itemS r b x day).1.Asset.Maturity ≤ 200000 := by
  unfold itemS at e ⊢
  cases k : lk x.ISIN r with
  | none => rw [k] at e; cases e
  | some y =>
    rw [k] at e
    have ok := asset_ok (h.2.2 y (lk_mem k))
    show 0 ≤ (if y.Price = 0 then (zI, (31 : Int)) else _).1.Asset.Maturity ∧ (if y.Price = 0 then (zI, (31 : Int)) else _).1.Asset.Maturity ≤ 200000
    split
    · decide
    · split
      · decide
      · split
        · decide
        · split
          · decide
          · exact ⟨ok.2.2.2.2.1, ok.2.2.2.2.2⟩
theorem elig_l (h : Fine r) (hb : Rules b) {l : List api_Lot} (hl : l.length ≤ 1000) {Q : (List api_Lot) × (List haircut_Item) → Prop} : ∀ (n i : Nat) (o : List api_Lot) (a : List haircut_Item), n + i = l.length → o.length ≤ i → a.length ≤ i → Q (o ++ outL r b day (l.drop i), a ++ inL r b day (l.drop i)) → lots_Eligible_L0 day l b (bk r) Q (i : Int) o a := by
  intro n
  induction n with
  | zero =>
    intro i o a hn ho ha q
    refine lots_Eligible_l0 ?_
    unfold lots_Eligible_w0
    rw [lenM_eq]
    rw [List.drop_of_length_le (by omega)] at q
    exact Br.neg (by omega) (Lf.i (by simpa [outL, inL] using q))
  | succ n ih =>
    intro i o a hn ho ha q
    have hi : i < l.length := by omega
    refine lots_Eligible_l0 ?_
    unfold lots_Eligible_w0
    rw [lenM_eq]
    rw [List.drop_eq_getElem_cons hi] at q
    have g : l[(i : Int).toNat]? = some l[i] := by simp [hi]
    have no : takeS r b day l[i] = false → Q (o ++ [l[i]] ++ outL r b day (l.drop (i + 1)), a ++ inL r b day (l.drop (i + 1))) := fun k => by
      unfold outL inL at q ⊢
      rw [List.filter_cons, k, List.filter_cons, k] at q
      simpa using q
    have yes : takeS r b day l[i] = true → Q (o ++ outL r b day (l.drop (i + 1)), a ++ [(itemS r b l[i] day).1] ++ inL r b day (l.drop (i + 1))) := fun k => by
      unfold outL inL at q ⊢
      rw [List.filter_cons, k, List.filter_cons, k] at q
      simpa using q
    refine Br.pos (by omega) ⟨l[i], Got.i ⟨_, Find_r h (by have := hb.cuts; omega) _ _, ?_⟩ (by omega) g⟩
    refine Br.i (fun c => App2.i (app24b (by simp; omega)) (Num.n (by omega) (ih (i + 1) _ _ (by omega) (by simp; omega) (by omega) (no ?_)))) (fun c => ?_)
    · unfold takeS; rw [decide_eq_false c]; rfl
    · have c := Decidable.not_not.1 c
      refine ⟨_, Fits_r hb (item_ok h c), ?_⟩
      refine Br.i (fun c2 => App2.i (app24b (by simp; omega)) (Num.n (by omega) (ih (i + 1) _ _ (by omega) (by simp; omega) (by omega) (no ?_)))) (fun c2 => App2.i (app96 (by simp; omega)) (Num.n (by omega) (ih (i + 1) _ _ (by omega) (by omega) (by simp; omega) (yes ?_))))
      · unfold takeS; rw [decide_eq_true c, Bool.true_and]; exact beq_eq_false_iff_ne.2 c2
      · unfold takeS; rw [decide_eq_true c, Bool.true_and]; exact beq_iff_eq.2 (Decidable.not_not.1 c2)
theorem relig_l (h : Fine r) (hb : Rules b) {l : List api_Lot} (hl : l.length ≤ 1000) {Q : (List lombardref15_Item) × (List api_Lot) → Prop} : ∀ (n i : Nat) (o : List api_Lot) (a : List lombardref15_Item), n + i = l.length → o.length ≤ i → a.length ≤ i → Q (a ++ (inL r b day (l.drop i)).map toR, o ++ outL r b day (l.drop i)) → lombardref17_Eligible_L0 r l day b Q (i : Int) a o := by
  intro n
  induction n with
  | zero =>
    intro i o a hn ho ha q
    refine lombardref17_Eligible_l0 ?_
    unfold lombardref17_Eligible_w0
    rw [lenM_eq]
    rw [List.drop_of_length_le (by omega)] at q
    exact Br.neg (by omega) (Lf.i (by simpa [outL, inL] using q))
  | succ n ih =>
    intro i o a hn ho ha q
    have hi : i < l.length := by omega
    refine lombardref17_Eligible_l0 ?_
    unfold lombardref17_Eligible_w0
    rw [lenM_eq]
    rw [List.drop_eq_getElem_cons hi] at q
    have g : l[(i : Int).toNat]? = some l[i] := by simp [hi]
    have no : takeS r b day l[i] = false → Q (a ++ (inL r b day (l.drop (i + 1))).map toR, o ++ [l[i]] ++ outL r b day (l.drop (i + 1))) := fun k => by
      unfold outL inL at q ⊢
      rw [List.filter_cons, k, List.filter_cons, k] at q
      simpa using q
    have yes : takeS r b day l[i] = true → Q (a ++ [toR (itemS r b l[i] day).1] ++ (inL r b day (l.drop (i + 1))).map toR, o ++ outL r b day (l.drop (i + 1))) := fun k => by
      unfold outL inL at q ⊢
      rw [List.filter_cons, k, List.filter_cons, k] at q
      simpa using q
    refine Br.pos (by omega) ⟨l[i], Got.i ⟨_, RFind_r h (by have := hb.cuts; omega) _ _, ?_⟩ (by omega) g⟩
    refine Br.i (fun c => ?_) (fun c => Got.i (App2.i (app24b (by simp; omega)) (Num.n (by omega) (ih (i + 1) _ _ (by omega) (by simp; omega) (by omega) (no ?_)))) (by omega) g)
    · refine ⟨_, RWhy_r hb (item_ok h c), ?_⟩
      refine Br.i (fun c2 => App2.i (app96 (by simp; omega)) (Num.n (by omega) (ih (i + 1) _ _ (by omega) (by omega) (by simp; omega) (yes ?_)))) (fun c2 => Got.i (App2.i (app24b (by simp; omega)) (Num.n (by omega) (ih (i + 1) _ _ (by omega) (by simp; omega) (by omega) (no ?_)))) (by omega) g)
      · unfold takeS; rw [decide_eq_true c, Bool.true_and]; exact beq_iff_eq.2 c2
      · unfold takeS; rw [decide_eq_true c, Bool.true_and]; exact beq_eq_false_iff_ne.2 c2
    · unfold takeS; rw [decide_eq_false c]; rfl
theorem in_out (l : List api_Lot) : (inL r b day l).length + (outL r b day l).length = l.length := by
  unfold inL outL
  rw [List.length_map]
  induction l with
  | nil => rfl
  | cons x l ih =>
    rw [List.filter_cons, List.filter_cons, List.length_cons]
    cases takeS r b day x <;> simp <;> omega
theorem Eligible_r (h : Fine r) (hb : Rules b) {l : List api_Lot} (hl : l.length ≤ 1000) : lots_Eligible_r (bk r) b l day (isort leE (inL r b day l), outL r b day l) := by
  refine lots_Eligible_of ?_
  unfold lots_Eligible_w
  have := in_out (r := r) (b := b) (day := day) l
  refine elig_l h hb hl l.length 0 [] [] (by omega) (by simp) (by simp) ?_
  rw [List.drop_zero, List.nil_append, List.nil_append]
  exact ⟨_, Rank_r (by show (inL r b day l).length ≤ _; omega), Rt.i rfl⟩
theorem REligible_r (h : Fine r) (hb : Rules b) {l : List api_Lot} (hl : l.length ≤ 1000) : lombardref17_Eligible_r r b l day ((isort leE (inL r b day l)).map toR, outL r b day l) := by
  refine lombardref17_Eligible_of ?_
  unfold lombardref17_Eligible_w
  have := in_out (r := r) (b := b) (day := day) l
  refine relig_l h hb hl l.length 0 [] [] (by omega) (by simp) (by simp) ?_
  rw [List.drop_zero, List.nil_append, List.nil_append]
  have e := RRank_r (l := (inL r b day l).map toR) (by rw [List.length_map]; omega)
  rw [toH_toR] at e
  exact ⟨_, e, Rt.i rfl⟩
end
/-! The same. -/
theorem lots_l {a : List api_Lot} (hl : a.length ≤ 1000000) {Q0 Q1 : Unit → Prop} (q : Q1 ()) : ∀ (n i : Nat), n + i = a.length → lombardref10_Lots_L0 a a Q0 Q1 (i : Int) := by
  intro n
  induction n with
  | zero =>
    intro i h
    refine lombardref10_Lots_l0 ?_
    unfold lombardref10_Lots_w0
    rw [lenM_eq]
    exact Br.neg (by omega) (Lf.i q)
  | succ n ih =>
    intro i h
    have hi : i < a.length := by omega
    refine lombardref10_Lots_l0 ?_
    unfold lombardref10_Lots_w0
    rw [lenM_eq]
    have g : a[(i : Int).toNat]? = some a[i] := by simp [hi]
    have e : ∀ s : ByteArray, strEq s s = true := fun s => strEq_true rfl
    refine Br.pos (by omega) ⟨a[i], Got.i ⟨a[i], Got.i (Br.f (by simp [e]) (Num.n (by omega) (ih (i + 1) (by omega)))) (by omega) g⟩ (by omega) g⟩
theorem Lots_r {a : List api_Lot} (hl : a.length ≤ 1000000) : lombardref10_Lots_r a a true := by
  refine lombardref10_Lots_of ?_
  unfold lombardref10_Lots_w
  rw [lenM_eq]
  exact Br.f (by simp) (lots_l hl (Rt.i rfl) a.length 0 (by omega))
end Go.Proofs.YtghkboapcapooaaGreat.Pure
