/- The numbers of securities, and what is wrong with a security: the program's and the reference's. -/
import Derived.Test.YtghkboapcapooaaGreatRA
import Derived.Test.YtghkboapcapooaaGreatAbStr
set_option linter.unusedVariables false
set_option linter.unusedSimpArgs false
namespace Go.Proofs.YtghkboapcapooaaGreat.Pure
open Go Go.Ab Go.Proofs.YtghkboapcapooaaGreat.R
set_option linter.unusedVariables false
def by8 (s : ByteArray) : List Int := s.data.toList.map (fun u => (u.toNat : Int))
theorem by8_len (s : ByteArray) : (by8 s).length = s.size := by unfold by8; rw [List.length_map]; rfl
theorem by8_at {s : ByteArray} {i : Nat} (h : i < (by8 s).length) : At8 s i (by8 s)[i] := by
  unfold by8 at h ⊢
  rw [List.length_map] at h
  have h2 : i < s.data.size := h
  unfold At8
  rw [List.getElem_map, Array.getElem?_eq_getElem h2, Option.map_some, Array.getElem_toList]
theorem by8_bd {s : ByteArray} : ∀ c ∈ by8 s, 0 ≤ c ∧ c ≤ 255 := by
  intro c h
  unfold by8 at h
  obtain ⟨u, _, rfl⟩ := List.mem_map.1 h
  have := UInt8.toNat_lt u
  omega
theorem by8_cut {s : ByteArray} {n : Nat} : by8 (s.extract 0 n) = (by8 s).take n := by
  unfold by8
  rw [← List.map_take]
  congr 1
  rw [ByteArray.data_extract]
  simp
theorem u8n {n : Int} (h : 0 ≤ n ∧ n ≤ 255) : IntKind.u8.wrap n = n := by
  simp only [IntKind.wrap, IntKind.bits, IntKind.signed]
  simp
  omega
theorem app8 {n : Nat} (h : n ≤ 3000000) : App 8 n := ⟨by unfold maxLen; omega, by omega⟩
def isD (c : Int) : Bool := decide (48 ≤ c ∧ c ≤ 57)
def isU (c : Int) : Bool := decide (65 ≤ c ∧ c ≤ 90)
def okC (c : Int) : Bool := isD c || isU c
def dg (c : Int) : List Int := if isD c then [c - 48] else [(c - 65 + 10) / 10, (c - 65 + 10) % 10]
theorem isD_iff {c : Int} : isD c = true ↔ 48 ≤ c ∧ c ≤ 57 := by unfold isD; simp
theorem isU_iff {c : Int} : isU c = true ↔ 65 ≤ c ∧ c ≤ 90 := by unfold isU; simp
theorem isD_f {c : Int} : isD c = false ↔ ¬ (48 ≤ c ∧ c ≤ 57) := by unfold isD; exact decide_eq_false_iff_not
theorem isU_f {c : Int} : isU c = false ↔ ¬ (65 ≤ c ∧ c ≤ 90) := by unfold isU; exact decide_eq_false_iff_not
theorem digit_r (c : Int) : isin_digit_r c (isD c) := by
  refine isin_digit_of ?_
  unfold isin_digit_w
  refine Br.i (fun h => Rt.i ?_) (fun h => Rt.i ?_)
  · unfold isD; exact decide_eq_decide.2 ⟨fun k => ⟨by omega, k⟩, fun k => k.2⟩
  · exact (isD_f.2 (by omega)).symm
theorem upper_r (c : Int) : isin_upper_r c (isU c) := by
  refine isin_upper_of ?_
  unfold isin_upper_w
  refine Br.i (fun h => Rt.i ?_) (fun h => Rt.i ?_)
  · unfold isU; exact decide_eq_decide.2 ⟨fun k => ⟨by omega, k⟩, fun k => k.2⟩
  · exact (isU_f.2 (by omega)).symm
theorem dg_D {c : Int} (h : isD c = true) : dg c = [c - 48] := by unfold dg; rw [if_pos h]
theorem dg_U {c : Int} (h : isD c = false) : dg c = [(c - 65 + 10) / 10, (c - 65 + 10) % 10] := by unfold dg; rw [if_neg (by rw [h]; decide)]
theorem dg_bd {c : Int} (h : okC c = true) : ∀ d ∈ dg c, 0 ≤ d ∧ d ≤ 9 := by
  intro d hd
  cases k : isD c with
  | true => rw [dg_D k] at hd; have := isD_iff.1 k; simp at hd; omega
  | false =>
    rw [dg_U k] at hd
    unfold okC at h; rw [k] at h
    have := isU_iff.1 (by simpa using h)
    simp at hd
    omega
theorem dg_len (c : Int) : (dg c).length ≤ 2 := by unfold dg; split <;> simp
/-- The digits of signs. -/
def digS (s : List Int) : List Int × Bool := if s.all okC then (s.flatMap dg, true) else ([], false)
theorem digits_l {s : ByteArray} (hl : s.size ≤ 1000) {Q0 : Unit → Prop} {Q1 : List Int → Prop} : ∀ (n i : Nat) (acc : List Int), n + i = s.size → acc.length ≤ 2 * i →
    (((by8 s).drop i).all okC = false → Q0 ()) → (((by8 s).drop i).all okC = true → Q1 (acc ++ ((by8 s).drop i).flatMap dg)) → lombardref05_digits_L0 s Q0 Q1 (i : Int) acc := by
  intro n
  induction n with
  | zero =>
    intro i acc h ha q0 q1
    refine lombardref05_digits_l0 ?_
    unfold lombardref05_digits_w0
    rw [List.drop_of_length_le (by rw [by8_len]; omega)] at q1
    exact Br.neg (by omega) (Lf.i (by simpa using q1 rfl))
  | succ n ih =>
    intro i acc h ha q0 q1
    have hs : i < (by8 s).length := by rw [by8_len]; omega
    rw [List.drop_eq_getElem_cons hs, List.all_cons, List.flatMap_cons] at q1
    rw [List.drop_eq_getElem_cons hs, List.all_cons] at q0
    have bd := by8_bd _ (List.getElem_mem hs)
    have at8 := by8_at hs
    generalize (by8 s)[i] = c at bd at8 q0 q1
    refine lombardref05_digits_l0 ?_
    unfold lombardref05_digits_w0
    have next : ∀ acc', acc' = acc ++ dg c → okC c = true → lombardref05_digits_L0 s Q0 Q1 ((i + 1 : Nat) : Int) acc' := by
      intro acc' e ok
      subst e
      have := dg_len c
      refine ih (i + 1) _ (by omega) (by simp; omega) (fun k => q0 (by rw [k]; simp)) (fun k => ?_)
      rw [List.append_assoc]
      exact q1 (by rw [k, ok]; rfl)
    have bad : okC c = false → Q0 () := fun k => q0 (by rw [k]; rfl)
    refine Br.pos (by omega) ⟨c, StrG.i (by omega) at8 (Num.n (by omega) (Br.i (fun c0 => Br.i (fun c1 => ?_) (fun c1 => ?_)) (fun c0 => ?_)))⟩
    · have d : isD c = true := isD_iff.2 ⟨by omega, by omega⟩
      refine Num.n (by omega) (App2.i (app8 (by simp; omega)) (Num.n (by omega) (next _ ?_ (by unfold okC; rw [d]; rfl))))
      rw [dg_D d]
    · have d : isD c = false := isD_f.2 (by omega)
      refine Br.i (fun c2 => Br.i (fun c3 => ?_) (fun c3 => Lf.i (bad ?_))) (fun c2 => Lf.i (bad ?_))
      · refine Num.n (by omega) (Num.n (by omega) (Quo'.i ⟨by omega, by omega, by show _ ≤ (9223372036854775807 : Int); omega⟩ (Num.n (by omega) (Num.n (by omega) (Rem'.i ⟨by omega, by omega⟩ (App2.i (app8 (by simp; omega)) (Num.n (by omega) (next _ ?_ ?_))))))))
        · rw [dg_U d]
        · unfold okC; rw [isU_iff.2 ⟨by omega, by omega⟩]; simp
      · unfold okC; rw [d, isU_f.2 (by omega)]; rfl
      · unfold okC; rw [d, isU_f.2 (by omega)]; rfl
    · have d : isD c = false := isD_f.2 (by omega)
      refine Br.i (fun c2 => absurd c2 (by omega)) (fun c2 => Lf.i (bad ?_))
      unfold okC; rw [d, isU_f.2 (by omega)]; rfl
theorem digits_r {s : ByteArray} (hl : s.size ≤ 1000) : lombardref05_digits_r s (digS (by8 s)) := by
  refine lombardref05_digits_of ?_
  unfold lombardref05_digits_w
  refine digits_l hl s.size 0 [] (by omega) (by simp) (fun k => Rt.i ?_) (fun k => Rt.i ?_)
  · rw [List.drop_zero] at k; unfold digS; rw [if_neg (by rw [k]; decide)]
  · rw [List.drop_zero] at k; unfold digS; rw [if_pos k]; simp
/-! The shape. -/
def shapeS (b : List Int) : Bool := b.all okC && decide (65 ≤ b.getD 0 0 ∧ 65 ≤ b.getD 1 0)
theorem shaped_r {s : ByteArray} (hl : s.size = 11) : lombardref05_shaped_r s (shapeS (by8 s)) := by
  refine lombardref05_shaped_of ?_
  unfold lombardref05_shaped_w
  have h0 : 0 < (by8 s).length := by rw [by8_len]; omega
  have h1 : 1 < (by8 s).length := by rw [by8_len]; omega
  have e0 : (by8 s).getD 0 0 = (by8 s)[0] := by rw [List.getD_eq_getElem?_getD, List.getElem?_eq_getElem h0]; rfl
  have e1 : (by8 s).getD 1 0 = (by8 s)[1] := by rw [List.getD_eq_getElem?_getD, List.getElem?_eq_getElem h1]; rfl
  refine ⟨_, digits_r (by omega), ?_⟩
  unfold shapeS digS
  rw [e0, e1]
  cases k : (by8 s).all okC with
  | false => exact Br.f rfl (Rt.i rfl)
  | true =>
    refine Br.t rfl (Br.pos (by omega) ⟨_, StrG.i (by omega) (by8_at h0) (Br.i (fun c => ⟨_, StrG.i (by omega) (by8_at h1) (Rt.i ?_)⟩) (fun c => Rt.i ?_))⟩)
    · rw [Bool.true_and]; exact decide_eq_decide.2 ⟨fun q => ⟨c, q⟩, fun q => q.2⟩
    · rw [Bool.true_and]; exact (decide_eq_false (fun q => c q.1)).symm
def shP (b : List Int) (i : Nat) : Bool := (b.zipIdx i).all (fun p => isU p.1 || (decide (2 ≤ p.2) && isD p.1))
theorem shape_l {s : ByteArray} (hl : s.size ≤ 1000) {Q0 Q1 : Unit → Prop} : ∀ (n i : Nat), n + i = s.size → (shP ((by8 s).drop i) i = false → Q0 ()) → (shP ((by8 s).drop i) i = true → Q1 ()) → isin_shape_L0 s Q0 Q1 (i : Int) := by
  intro n
  induction n with
  | zero =>
    intro i h q0 q1
    refine isin_shape_l0 ?_
    unfold isin_shape_w0
    rw [List.drop_of_length_le (by rw [by8_len]; omega)] at q1
    exact Br.neg (by omega) (Lf.i (q1 rfl))
  | succ n ih =>
    intro i h q0 q1
    have hs : i < (by8 s).length := by rw [by8_len]; omega
    refine isin_shape_l0 ?_
    unfold isin_shape_w0
    rw [List.drop_eq_getElem_cons hs] at q0 q1
    unfold shP at q0 q1
    rw [List.zipIdx_cons, List.all_cons] at q0 q1
    have at8 := by8_at hs
    generalize (by8 s)[i] = c at at8 q0 q1
    have next : (isU c || (decide (2 ≤ i) && isD c)) = true → isin_shape_L0 s Q0 Q1 ((i + 1 : Nat) : Int) := fun e =>
      ih (i + 1) (by omega) (fun k => q0 (by show ((isU c || (decide (2 ≤ i) && isD c)) && _) = false; rw [e]; exact k)) (fun k => q1 (by show ((isU c || (decide (2 ≤ i) && isD c)) && _) = true; rw [e]; exact k))
    have bad : (isU c || (decide (2 ≤ i) && isD c)) = false → Q0 () := fun e => q0 (by show ((isU c || (decide (2 ≤ i) && isD c)) && _) = false; rw [e]; rfl)
    refine Br.pos (by omega) ⟨c, StrG.i (by omega) at8 ⟨_, upper_r c, ?_⟩⟩
    cases hu : isU c with
    | true => exact Br.f rfl (Num.n (by omega) (next (by rw [hu]; rfl)))
    | false =>
      refine Br.t rfl (Br.i (fun c2 => Lf.i (bad ?_)) (fun c2 => StrG.i (by omega) at8 ⟨_, digit_r c, ?_⟩))
      · rw [hu, decide_eq_false (by omega)]; rfl
      · cases hd : isD c with
        | true => exact Br.f rfl (Num.n (by omega) (next (by rw [hu, hd, decide_eq_true (by omega)]; rfl)))
        | false => exact Br.t rfl (Lf.i (bad (by rw [hu, hd]; simp)))
theorem shP_ge : ∀ (b : List Int) (i : Nat), 2 ≤ i → shP b i = b.all okC
  | [], _, _ => rfl
  | c :: b, i, h => by
    have := shP_ge b (i + 1) (by omega)
    unfold shP at this ⊢
    rw [List.zipIdx_cons, List.all_cons, this, List.all_cons, decide_eq_true h, Bool.true_and]
    unfold okC
    rw [Bool.or_comm (isU c)]
theorem shP_0 {b : List Int} (h : 2 ≤ b.length) : shP b 0 = shapeS b := by
  match b, h with
  | x :: y :: b, _ =>
    have e := shP_ge b 2 (by omega)
    have hx : ∀ z : Int, (isU z || (decide (2 ≤ 0) && isD z)) = (okC z && decide (65 ≤ z)) := by
      intro z
      unfold okC
      cases hu : isU z with
      | true => have := isU_iff.1 hu; rw [decide_eq_true (by omega : 65 ≤ z)]; simp
      | false =>
        cases hd : isD z with
        | false => rfl
        | true => have := isD_iff.1 hd; rw [decide_eq_false (by omega : ¬ 65 ≤ z)]; simp
    have hy : ∀ z : Int, (isU z || (decide (2 ≤ 1) && isD z)) = (okC z && decide (65 ≤ z)) := hx
    have e2 : shP (x :: y :: b) 0 = ((isU x || (decide (2 ≤ 0) && isD x)) && ((isU y || (decide (2 ≤ 1) && isD y)) && shP b 2)) := rfl
    rw [e2, hx, hy, e]
    unfold shapeS
    rw [List.all_cons, List.all_cons]
    show _ = (okC x && (okC y && b.all okC) && decide (65 ≤ x ∧ 65 ≤ y))
    rw [Bool.decide_and]
    cases okC x <;> cases okC y <;> cases b.all okC <;> cases decide (65 ≤ x) <;> cases decide (65 ≤ y) <;> rfl
theorem shape_r {s : ByteArray} (hl : s.size = 11) : isin_shape_r s (shapeS (by8 s)) := by
  refine isin_shape_of ?_
  unfold isin_shape_w
  rw [← shP_0 (by rw [by8_len]; omega)]
  refine shape_l (by omega) s.size 0 (by omega) (fun k => Rt.i ?_) (fun k => Rt.i ?_)
  · rw [List.drop_zero] at k; rw [k]
  · rw [List.drop_zero] at k; rw [k, hl]; rfl
/-! Digits added. -/
def d2 (d : Int) : Int := (d * 2) / 10 + (d * 2) % 10
def tot : List Int → Bool → Int
  | [], _ => 0
  | d :: l, t => (if t then d2 d else d) + tot l (!t)
theorem put_bd {d : Int} {t : Bool} (h : 0 ≤ d ∧ d ≤ 9) : 0 ≤ (if t then d2 d else d) ∧ (if t then d2 d else d) ≤ 9 := by
  cases t
  · exact h
  · show 0 ≤ d2 d ∧ d2 d ≤ 9
    unfold d2; omega
theorem total_1_r {d c1 : Int} {t : Bool} (h : 0 ≤ d ∧ d ≤ 9) (h1 : 0 ≤ c1 ∧ c1 ≤ 1000000) : isin_total_1_r d t c1 (!t, c1 + (if t then d2 d else d)) := by
  refine isin_total_1_of ?_
  unfold isin_total_1_w
  cases t
  · exact Br.f rfl (Num.n (by omega) (Rt.i rfl))
  · exact Br.t rfl (Num.n (by omega) (Quo'.i ⟨by omega, by omega, by show _ ≤ (9223372036854775807 : Int); omega⟩ (Rem'.i ⟨by omega, by omega⟩ (Num.n (by omega) (Num.n (by omega) (Rt.i rfl))))))
theorem total_l {s : ByteArray} (hl : s.size ≤ 1000) (ok : (by8 s).all okC = true) {Q : Int → Prop} : ∀ (k : Nat) (t : Bool) (sum : Int), k ≤ s.size → 0 ≤ sum → sum ≤ 20 * ((s.size : Int) - k) →
    Q (sum + tot (((by8 s).take k).flatMap dg).reverse t) → isin_total_L0 s Q ((k : Int) - 1) t sum := by
  intro k
  induction k with
  | zero =>
    intro t sum hk h0 h1 q
    refine isin_total_l0 ?_
    unfold isin_total_w0
    exact Br.neg (by omega) (Lf.i (by simpa [tot] using q))
  | succ k ih =>
    intro t sum hk h0 h1 q
    have hs : k < (by8 s).length := by rw [by8_len]; omega
    have e : ((k + 1 : Nat) : Int) - 1 = (k : Int) := by omega
    rw [e]
    refine isin_total_l0 ?_
    unfold isin_total_w0
    have okc : okC (by8 s)[k] = true := List.all_eq_true.1 ok _ (List.getElem_mem hs)
    rw [List.take_succ_eq_append_getElem hs, List.flatMap_append, List.reverse_append] at q
    have at8 := by8_at hs
    generalize (by8 s)[k] = c at at8 q okc
    have bd := dg_bd okc
    rw [show [c].flatMap dg = dg c by simp] at q
    refine Br.pos (by omega) ⟨c, StrG.i (by omega) at8 ⟨_, digit_r c, ?_⟩⟩
    cases hd : isD c with
    | true =>
      have cd := isD_iff.1 hd
      rw [dg_D hd] at q bd
      have b1 : 0 ≤ c - 48 ∧ c - 48 ≤ 9 := by omega
      have p1 := put_bd (t := t) b1
      refine Br.t rfl (StrG.i (by omega) at8 ?_)
      rw [u8n (by omega)]
      refine Num.n (by omega) ⟨_, total_1_r b1 (by omega), Num.n (by omega) (ih _ _ (by omega) (by omega) (by omega) ?_)⟩
      rw [List.reverse_singleton, List.singleton_append, tot] at q
      rw [Int.add_assoc]; exact q
    | false =>
      rw [dg_U hd] at q bd
      have cu : 65 ≤ c ∧ c ≤ 90 := isU_iff.1 (by unfold okC at okc; rw [hd] at okc; simpa using okc)
      have b1 : 0 ≤ (c - 65 + 10) % 10 ∧ (c - 65 + 10) % 10 ≤ 9 := by omega
      have b2 : 0 ≤ (c - 65 + 10) / 10 ∧ (c - 65 + 10) / 10 ≤ 9 := by omega
      have p1 := put_bd (t := t) b1
      have p2 := put_bd (t := !t) b2
      refine Br.f rfl (StrG.i (by omega) at8 ?_)
      rw [u8n (by omega)]
      refine Num.n (by omega) (Num.n (by omega) (Rem'.i ⟨by omega, by omega⟩ ⟨_, total_1_r b1 (by omega), Quo'.i ⟨by omega, by omega, by show _ ≤ (9223372036854775807 : Int); omega⟩ ⟨_, total_1_r b2 (by simp only; omega), Num.n (by omega) (ih _ _ (by omega) (by simp only; omega) (by simp only; omega) ?_)⟩⟩))
      rw [show [(c - 65 + 10) / 10, (c - 65 + 10) % 10].reverse = [(c - 65 + 10) % 10, (c - 65 + 10) / 10] from rfl, List.cons_append, List.singleton_append, tot, tot] at q
      simp only [Int.add_assoc]
      exact q
theorem total_r {s : ByteArray} (hl : s.size ≤ 1000) (ok : (by8 s).all okC = true) (t : Bool) : isin_total_r s t (tot ((by8 s).flatMap dg).reverse t) := by
  refine isin_total_of ?_
  unfold isin_total_w
  refine Num.n (by omega) (total_l hl ok s.size t 0 (Nat.le_refl _) (by omega) (by omega) (Rt.i ?_))
  rw [List.take_of_length_le (by rw [by8_len]; exact Nat.le_refl _)]
  omega
theorem right_l {l : List Int} {b : Bool} (hl : l.length ≤ 3000) (bd : ∀ d ∈ l, 0 ≤ d ∧ d ≤ 9) {Q : Int → Prop} : ∀ (n i : Nat) (sum : Int), n + i = l.length → 0 ≤ sum → sum ≤ 20 * i → Q (sum + tot (l.reverse.drop i) (i % 2 == 1)) → lombardref05_right_L0 (l, b) Q sum (i : Int) := by
  intro n
  induction n with
  | zero =>
    intro i sum h h0 h1 q
    refine lombardref05_right_l0 ?_
    unfold lombardref05_right_w0
    simp only [lenM_eq]
    rw [List.drop_of_length_le (by simp; omega)] at q
    exact Br.neg (by omega) (Lf.i (by simpa [tot] using q))
  | succ n ih =>
    intro i sum h h0 h1 q
    refine lombardref05_right_l0 ?_
    unfold lombardref05_right_w0
    simp only [lenM_eq]
    have hs : i < l.reverse.length := by simp; omega
    rw [List.drop_eq_getElem_cons hs, tot] at q
    have hi : l.length - 1 - i < l.length := by omega
    have g : l[((l.length : Int) - 1 - i).toNat]? = some l.reverse[i] := by
      rw [List.getElem_reverse, show ((l.length : Int) - 1 - i).toNat = l.length - 1 - i by omega]
      exact List.getElem?_eq_getElem hi
    have bd1 := bd _ (List.mem_reverse.1 (List.getElem_mem hs))
    generalize l.reverse[i] = d at g bd1 q
    have e2 : (!(i % 2 == 1)) = ((i + 1) % 2 == 1) := by
      rcases Nat.mod_two_eq_zero_or_one i with k | k
      · rw [k, show (i + 1) % 2 = 1 by omega]; rfl
      · rw [k, show (i + 1) % 2 = 0 by omega]; rfl
    rw [e2] at q
    refine Br.pos (by omega) (Num.n (by omega) (Num.n (by omega) ⟨d, Got.i (Rem'.i ⟨by omega, by omega⟩ (Br.i (fun c => ?_) (fun c => ?_))) (by omega) g⟩))
    · refine Num.n (by omega) (Quo'.i ⟨by omega, by omega, by show _ ≤ (9223372036854775807 : Int); omega⟩ (Num.n (by omega) (Rem'.i ⟨by omega, by omega⟩ (Num.n (by omega) (Num.n (by omega) (ih (i + 1) _ (by omega) (by omega) (by omega) ?_))))))
      rw [show (i % 2 == 1) = true by simp; omega, if_pos rfl] at q
      unfold d2 at q
      rw [Int.mul_comm 2 d, Int.add_assoc sum, Int.add_assoc]; exact q
    · refine Quo'.i ⟨by omega, by omega, by show _ ≤ (9223372036854775807 : Int); omega⟩ (Num.n (by omega) (Rem'.i ⟨by omega, by omega⟩ (Num.n (by omega) (Num.n (by omega) (ih (i + 1) _ (by omega) (by omega) (by omega) ?_)))))
      rw [show (i % 2 == 1) = false by simp; omega, if_neg (by decide)] at q
      rw [show sum + d / 10 + d % 10 = sum + d by omega, Int.add_assoc]; exact q
theorem flat_bd {b : List Int} (ok : b.all okC = true) : ∀ d ∈ b.flatMap dg, 0 ≤ d ∧ d ≤ 9 := by
  intro d hd
  obtain ⟨c, hc, hd⟩ := List.mem_flatMap.1 hd
  exact dg_bd (List.all_eq_true.1 ok c hc) d hd
theorem flat_len : ∀ (b : List Int), (b.flatMap dg).length ≤ 2 * b.length
  | [] => by simp
  | c :: b => by
    have := dg_len c
    have := flat_len b
    simp only [List.flatMap_cons, List.length_append, List.length_cons]; omega
theorem right_r {s : ByteArray} (hl : s.size ≤ 1000) (ok : (by8 s).all okC = true) : lombardref05_right_r s (tot ((by8 s).flatMap dg).reverse false % 10 == 0) := by
  refine lombardref05_right_of ?_
  unfold lombardref05_right_w
  refine ⟨_, digits_r hl, ?_⟩
  have e : digS (by8 s) = ((by8 s).flatMap dg, true) := by unfold digS; rw [if_pos ok]
  rw [e]
  have len := flat_len (by8 s)
  rw [by8_len] at len
  refine right_l (by omega) (flat_bd ok) _ 0 0 (by rfl) (by omega) (by omega) ?_
  rw [List.drop_zero, show (0 % 2 == 1) = false from rfl, Int.zero_add]
  have nn : ∀ (l : List Int) (t : Bool), (∀ d ∈ l, 0 ≤ d ∧ d ≤ 9) → 0 ≤ tot l t := by
    intro l
    induction l with
    | nil => intro t h; exact Int.le_refl 0
    | cons d l ih =>
      intro t h
      have h1 := put_bd (t := t) (h d (by simp))
      have h2 := ih (!t) (fun x hx => h x (by simp [hx]))
      rw [tot]; omega
  exact Br.t rfl (Rem'.i ⟨nn _ _ (fun d hd => flat_bd ok d (List.mem_reverse.1 hd)), by omega⟩ (Rt.i rfl))
theorem tot_nn : ∀ (l : List Int) (t : Bool), (∀ d ∈ l, 0 ≤ d ∧ d ≤ 9) → 0 ≤ tot l t := by
    intro l
    induction l with
    | nil => intro t h; exact Int.le_refl 0
    | cons d l ih =>
      intro t h
      have h1 := put_bd (t := t) (h d (by simp))
      have h2 := ih (!t) (fun x hx => h x (by simp [hx]))
      rw [tot]; omega
/-! What is wrong with a number. -/
def totS (b : List Int) : Int := tot ((b.take 11).flatMap dg).reverse true
def checkS (s : ByteArray) : Int := if s.size ≠ 12 then 11 else if isD ((by8 s).getD 11 0) = false then 11 else if shapeS ((by8 s).take 11) = false then 11 else if (totS (by8 s) + ((by8 s).getD 11 0 - 48)) % 10 ≠ 0 then 12 else 0
theorem Digit_r {s : ByteArray} (hl : s.size = 11) : isin_Digit_r s (if shapeS (by8 s) then (48 + (10 - (tot ((by8 s).flatMap dg).reverse true) % 10) % 10, 0) else (0, 11)) := by
  refine isin_Digit_of ?_
  unfold isin_Digit_w
  refine ⟨_, shape_r hl, ?_⟩
  cases k : shapeS (by8 s) with
  | false => exact Br.t rfl (Rt.i rfl)
  | true =>
    have ok : (by8 s).all okC = true := by unfold shapeS at k; simp only [Bool.and_eq_true] at k; exact k.1
    have t0 := tot_nn ((by8 s).flatMap dg).reverse true (fun d hd => flat_bd ok d (List.mem_reverse.1 hd))
    refine Br.f rfl ⟨_, total_r (by omega) ok true, Rem'.i ⟨t0, by omega⟩ (Num.n (by omega) (Rem'.i ⟨by omega, by omega⟩ (Num.n (by omega) (Rt.i ?_))))⟩
    rw [u8n (by omega)]; rfl
theorem size_cut {s : ByteArray} (h : s.size = 12) : (s.extract 0 ((11 : Int).toNat)).size = 11 := by
  rw [← by8_len, show (11 : Int).toNat = 11 from rfl, by8_cut, List.length_take, by8_len]; omega
theorem Check_r (s : ByteArray) : isin_Check_r s (checkS s) := by
  refine isin_Check_of ?_
  unfold isin_Check_w checkS
  refine Br.i (fun c => Rt.i (by rw [if_pos (by omega)])) (fun c => ?_)
  rw [if_neg (by omega)]
  have h11 : 11 < (by8 s).length := by rw [by8_len]; omega
  have e : (by8 s).getD 11 0 = (by8 s)[11] := by rw [List.getD_eq_getElem?_getD, List.getElem?_eq_getElem h11]; rfl
  rw [e]
  refine ⟨_, StrG.i (by omega) (by8_at h11) ⟨_, digit_r _, ?_⟩⟩
  cases hd : isD (by8 s)[11] with
  | false => exact Br.t rfl (Rt.i rfl)
  | true =>
    rw [if_neg (by decide)]
    have d1 := isD_iff.1 hd
    refine Br.f rfl (CutSh.i ⟨by omega, by omega⟩ ⟨_, Digit_r (size_cut (by omega)), ?_⟩)
    rw [show (11 : Int).toNat = 11 from rfl, by8_cut]
    unfold totS
    cases k : shapeS ((by8 s).take 11) with
    | false => rw [if_neg (by decide), if_pos rfl]; exact Br.neg (by decide) (Rt.i rfl)
    | true =>
      rw [if_pos rfl, if_neg (by decide)]
      have t0 : 0 ≤ tot (((by8 s).take 11).flatMap dg).reverse true := by
        refine tot_nn _ _ (fun d hd => flat_bd ?_ d (List.mem_reverse.1 hd))
        unfold shapeS at k; simp only [Bool.and_eq_true] at k; exact k.1
      generalize tot (((by8 s).take 11).flatMap dg).reverse true = T at t0
      refine Br.pos rfl (StrG.i (by omega) (by8_at h11) (Br.i (fun c => Rt.i ?_) (fun c => Rt.i ?_)))
      · have c : 48 + (10 - T % 10) % 10 ≠ (by8 s)[11] := c
        rw [if_pos (by omega)]
      · have c : 48 + (10 - T % 10) % 10 = (by8 s)[11] := Decidable.not_not.1 c
        rw [if_neg (by omega)]
theorem RCheck_r (s : ByteArray) : lombardref05_Check_r s (checkS s) := by
  refine lombardref05_Check_of ?_
  unfold lombardref05_Check_w checkS
  refine Br.i (fun c => Rt.i (by rw [if_pos (by omega)])) (fun c => ?_)
  rw [if_neg (by omega)]
  have h11 : 11 < (by8 s).length := by rw [by8_len]; omega
  have e : (by8 s).getD 11 0 = (by8 s)[11] := by rw [List.getD_eq_getElem?_getD, List.getElem?_eq_getElem h11]; rfl
  rw [e]
  refine ⟨_, StrG.i (by omega) (by8_at h11) (Br.i (fun c1 => Rt.i ?_) (fun c1 => StrG.i (by omega) (by8_at h11) (Br.i (fun c2 => Rt.i ?_) (fun c2 => ?_))))⟩
  · rw [if_pos (isD_f.2 (by omega))]
  · rw [if_pos (isD_f.2 (by omega))]
  · have hd : isD (by8 s)[11] = true := isD_iff.2 ⟨by omega, by omega⟩
    rw [hd, if_neg (by decide)]
    refine CutSh.i ⟨by omega, by omega⟩ ⟨_, shaped_r (size_cut (by omega)), ?_⟩
    rw [show (11 : Int).toNat = 11 from rfl, by8_cut]
    cases k : shapeS ((by8 s).take 11) with
    | false => exact Br.t rfl (Rt.i rfl)
    | true =>
      rw [if_neg (by decide)]
      have ok1 : ((by8 s).take 11).all okC = true := by unfold shapeS at k; simp only [Bool.and_eq_true] at k; exact k.1
      have split : by8 s = (by8 s).take 11 ++ [(by8 s)[11]] := by
        rw [← List.take_succ_eq_append_getElem h11, List.take_of_length_le (by rw [by8_len]; omega)]
      have ok : (by8 s).all okC = true := by
        rw [split, List.all_append, ok1, Bool.true_and, List.all_cons, List.all_nil, Bool.and_true]
        unfold okC; rw [hd]; rfl
      have eT : tot ((by8 s).flatMap dg).reverse false = ((by8 s)[11] - 48) + totS (by8 s) := by
        unfold totS
        conv => lhs; rw [split]
        rw [List.flatMap_append, List.reverse_append, show [(by8 s)[11]].flatMap dg = dg (by8 s)[11] by simp, dg_D hd, List.reverse_singleton, List.singleton_append, tot]
        rfl
      refine Br.f rfl ⟨_, right_r (by omega) ok, ?_⟩
      rw [eT]
      refine Br.i (fun c => Rt.i ?_) (fun c => Rt.i ?_)
      · rw [if_pos (by rw [Int.add_comm]; exact c)]
      · rw [if_neg (by rw [Int.add_comm]; exact c)]
/-! Currencies. -/
def codes : List ByteArray := [⟨#[69, 85, 82]⟩, ⟨#[85, 83, 68]⟩, ⟨#[71, 66, 80]⟩, ⟨#[67, 72, 70]⟩, ⟨#[74, 80, 89]⟩, ⟨#[83, 69, 75]⟩, ⟨#[78, 79, 75]⟩, ⟨#[68, 75, 75]⟩]
def curS (s : ByteArray) : Bool := codes.any (fun c => decide (c = s))
theorem Currency_r (s : ByteArray) : isin_Currency_r s (curS s) := by
  refine isin_Currency_of ?_
  unfold isin_Currency_w curS codes
  simp only [List.any_cons, List.any_nil]
  refine Br.i (fun c => Br.pos c (Rt.i (by rw [decide_eq_true c.symm]; rfl))) (fun c => ?_)
  rw [decide_eq_false (fun e => c e.symm), Bool.false_or]
  refine Br.i (fun c => Br.pos c (Rt.i (by rw [decide_eq_true c.symm]; rfl))) (fun c => ?_)
  rw [decide_eq_false (fun e => c e.symm), Bool.false_or]
  refine Br.i (fun c => Br.pos c (Rt.i (by rw [decide_eq_true c.symm]; rfl))) (fun c => ?_)
  rw [decide_eq_false (fun e => c e.symm), Bool.false_or]
  refine Br.i (fun c => Br.pos c (Rt.i (by rw [decide_eq_true c.symm]; rfl))) (fun c => ?_)
  rw [decide_eq_false (fun e => c e.symm), Bool.false_or]
  refine Br.i (fun c => Br.pos c (Rt.i (by rw [decide_eq_true c.symm]; rfl))) (fun c => ?_)
  rw [decide_eq_false (fun e => c e.symm), Bool.false_or]
  refine Br.i (fun c => Br.pos c (Rt.i (by rw [decide_eq_true c.symm]; rfl))) (fun c => ?_)
  rw [decide_eq_false (fun e => c e.symm), Bool.false_or]
  refine Br.i (fun c => Br.pos c (Rt.i (by rw [decide_eq_true c.symm]; rfl))) (fun c => ?_)
  rw [decide_eq_false (fun e => c e.symm), Bool.false_or]
  refine Br.i (fun c => Rt.i (by rw [decide_eq_true c.symm]; rfl)) (fun c => Rt.i ?_)
  rw [decide_eq_false (fun e => c e.symm)]; rfl
theorem codes_at : ∀ i : Nat, (h : i < 8) → (⟨#[69, 85, 82, 32, 85, 83, 68, 32, 71, 66, 80, 32, 67, 72, 70, 32, 74, 80, 89, 32, 83, 69, 75, 32, 78, 79, 75, 32, 68, 75, 75, 32]⟩ : ByteArray).extract (4 * i) (4 * i + 3) = codes[i]'(by show i < 8; exact h)
  | 0, _ => rfl
  | 1, _ => rfl
  | 2, _ => rfl
  | 3, _ => rfl
  | 4, _ => rfl
  | 5, _ => rfl
  | 6, _ => rfl
  | 7, _ => rfl
  | n + 8, h => absurd h (by omega)
theorem cur_l {s : ByteArray} {Q0 Q1 : Unit → Prop} : ∀ (n i : Nat), n + i = 8 → ((codes.drop i).any (fun c => decide (c = s)) = true → Q0 ()) → ((codes.drop i).any (fun c => decide (c = s)) = false → Q1 ()) → lombardref05_Currency_L0 s Q0 Q1 ((4 * i : Nat) : Int) := by
  intro n
  induction n with
  | zero =>
    intro i h q0 q1
    refine lombardref05_Currency_l0 ?_
    unfold lombardref05_Currency_w0
    exact Br.neg (by omega) (Lf.i (q1 (by rw [List.drop_of_length_le (by show 8 ≤ i; omega)]; rfl)))
  | succ n ih =>
    intro i h q0 q1
    refine lombardref05_Currency_l0 ?_
    unfold lombardref05_Currency_w0
    have hi : i < codes.length := by show i < 8; omega
    rw [List.drop_eq_getElem_cons hi, List.any_cons] at q0 q1
    refine Br.pos (by omega) (Num.n (by omega) (CutSlh.i ⟨by omega, by omega, by show _ ≤ ((32 : Nat) : Int); omega⟩ ?_))
    rw [show ((4 * i : Nat) : Int).toNat = 4 * i by omega, show (((4 * i : Nat) : Int) + 3).toNat = 4 * i + 3 by omega, codes_at i (by omega)]
    refine Br.i (fun c => Lf.i (q0 (by rw [decide_eq_true c]; rfl))) (fun c => Num.n (by omega) ?_)
    rw [show ((4 * i : Nat) : Int) + 4 = ((4 * (i + 1) : Nat) : Int) by omega]
    exact ih (i + 1) (by omega) (fun k => q0 (by rw [k]; simp)) (fun k => q1 (by rw [k, decide_eq_false c]; rfl))
theorem RCurrency_r (s : ByteArray) : lombardref05_Currency_r s (curS s) := by
  refine lombardref05_Currency_of ?_
  unfold lombardref05_Currency_w
  exact cur_l 8 0 rfl (fun k => Rt.i k.symm) (fun k => Rt.i k.symm)
/-! What is wrong with a security. -/
def assetS (a : api_Asset) : Int := if checkS a.ISIN ≠ 0 then checkS a.ISIN else if curS a.Currency = false then 11 else if a.Issuer < 0 then 1 else if a.Issuer > 9999 then 1 else if a.Rating < 0 then 1 else if a.Rating > 20 then 1 else if a.Maturity < 0 then 10 else if a.Maturity > 200000 then 10 else 0
theorem Asset_r (a : api_Asset) : isin_Asset_r a (assetS a) := by
  refine isin_Asset_of ?_
  unfold isin_Asset_w assetS
  refine ⟨_, Check_r _, Br.i (fun c => Rt.i (by rw [if_pos c])) (fun c => ?_)⟩
  rw [if_neg c]
  refine ⟨_, Currency_r _, ?_⟩
  cases k : curS a.Currency with
  | false => exact Br.t rfl (Rt.i rfl)
  | true =>
    refine Br.f rfl ?_
    rw [if_neg (by decide)]
    refine Br.i (fun c => Rt.i (by rw [if_pos c])) (fun c => ?_)
    rw [if_neg c]
    refine Br.i (fun c => Rt.i (by rw [if_pos c])) (fun c => ?_)
    rw [if_neg c]
    refine Br.i (fun c => Rt.i (by rw [if_pos c])) (fun c => ?_)
    rw [if_neg c]
    refine Br.i (fun c => Rt.i (by rw [if_pos c])) (fun c => ?_)
    rw [if_neg c]
    refine Br.i (fun c => Rt.i (by rw [if_pos c])) (fun c => ?_)
    rw [if_neg c]
    exact Br.i (fun c => Rt.i (by rw [if_pos c])) (fun c => Rt.i (by rw [if_neg c]))
theorem RAsset_r (a : api_Asset) : lombardref05_Asset_r a (assetS a) := by
  refine lombardref05_Asset_of ?_
  unfold lombardref05_Asset_w assetS
  refine ⟨_, RCheck_r _, Br.i (fun c => ⟨_, RCheck_r _, Rt.i (by rw [if_pos c])⟩) (fun c => ?_)⟩
  rw [if_neg c]
  refine ⟨_, RCurrency_r _, ?_⟩
  cases k : curS a.Currency with
  | false => exact Br.t rfl (Rt.i rfl)
  | true =>
    refine Br.f rfl ?_
    rw [if_neg (by decide)]
    refine Br.i (fun c => Rt.i (by rw [if_pos c])) (fun c => ?_)
    rw [if_neg c]
    refine Br.i (fun c => Rt.i (by rw [if_pos c])) (fun c => ?_)
    rw [if_neg c]
    refine Br.i (fun c => Rt.i (by rw [if_pos c])) (fun c => ?_)
    rw [if_neg c]
    refine Br.i (fun c => Rt.i (by rw [if_pos c])) (fun c => ?_)
    rw [if_neg c]
    refine Br.i (fun c => Rt.i (by rw [if_pos c])) (fun c => ?_)
    rw [if_neg c]
    exact Br.i (fun c => Rt.i (by rw [if_pos c])) (fun c => Rt.i (by rw [if_neg c]))
theorem asset_ok {a : api_Asset} (h : assetS a = 0) : 0 ≤ a.Issuer ∧ a.Issuer ≤ 9999 ∧ 0 ≤ a.Rating ∧ a.Rating ≤ 20 ∧ 0 ≤ a.Maturity ∧ a.Maturity ≤ 200000 := by
  unfold assetS at h
  split at h
  · rename_i k; exact absurd h k
  split at h
  · cases h
  split at h
  · cases h
  split at h
  · cases h
  split at h
  · cases h
  split at h
  · cases h
  split at h
  · cases h
  split at h
  · cases h
  omega
end Go.Proofs.YtghkboapcapooaaGreat.Pure
