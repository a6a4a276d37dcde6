/- What the document's numbers (lombardref01) come to on digits: trim, Of, Compare, Add, Sub. -/
import Derived.IntWalk
import Derived.Test.YtfommamkaaggjaaBigV
import Derived.Test.YtfommamkaaggjaaTFixB
set_option linter.unusedVariables false
set_option linter.unusedSimpArgs false
namespace Go.Proofs.Ytfommamkaaggjaa.Pure
open Go Go.Ab Go.Proofs.Ytfommamkaaggjaa.R Go.Proofs.Ytfommamkaaggjaa.Big

theorem same_digits : ∀ {a b : List Int}, Digits a → Digits b → a.length = b.length → val a = val b → a = b
  | [], [], _, _, _, _ => rfl
  | x :: a, y :: b, da, db, hl, hv => by
    have hx := da.head; have hy := db.head
    simp only [val] at hv
    have e : x = y := by omega
    subst e
    rw [same_digits da.tail db.tail (by simpa using hl) (by omega)]
  | [], _ :: _, _, _, hl, _ => by simp at hl
  | _ :: _, [], _, _, hl, _ => by simp at hl
theorem isBig_inj {a b : List Int} {n : Int} (ha : IsBig a n) (hb : IsBig b n) : a = b := by
  refine same_digits ha.1 hb.1 ?_ (by rw [ha.2.2, hb.2.2])
  rcases Nat.lt_trichotomy a.length b.length with h | h | h
  · have := ha.lt_of_len hb h; omega
  · exact h
  · have := hb.lt_of_len ha h; omega
open Classical in
/-- The digits of a number. -/
noncomputable def big (n : Int) : List Int := if h : ∃ r, IsBig r n then Classical.choose h else []
theorem isBig_eq {r : List Int} {n : Int} (h : IsBig r n) : r = big n := by
  have hx : ∃ r, IsBig r n := ⟨r, h⟩
  have : IsBig (big n) n := by unfold big; rw [dif_pos hx]; exact Classical.choose_spec hx
  exact isBig_inj h this
theorem gd {l : List Int} {i : Nat} (h : i < l.length) : l[(i : Int).toNat]? = some (l.getD i 0) := by
  rw [Int.toNat_natCast, List.getD_eq_getElem?_getD, List.getElem?_eq_getElem h]; rfl

theorem rq {k : Int} (h0 : 0 ≤ k) (h1 : k ≤ 18446744073709551615) : (0 ≤ k ∧ (0 : Int) < 65536) ∧ (0 ≤ k ∧ (0 : Int) < 65536 ∧ k ≤ IntKind.max .u64) := by
  have : IntKind.max .u64 = 18446744073709551615 := by decide
  omega

/-! trim -/
theorem trim_go (l : List Int) (hl : l.length ≤ 1000000) {Q : Int → Prop} : ∀ n, n ≤ l.length → (∀ m : Nat, m ≤ n → val (l.take m) = val (l.take n) → Trimmed (l.take m) → Q m) → lombardref01_trim_L0 l Q (n : Int)
  | 0, _, hQ => by
    refine lombardref01_trim_l0 ?_
    unfold lombardref01_trim_w0
    exact Br.neg (by omega) (Lf.i (hQ 0 (Nat.le_refl _) rfl (by intro h; simp at h)))
  | n + 1, hn, hQ => by
    have e : ((n + 1 : Nat) : Int) - 1 = (n : Int) := by omega
    refine lombardref01_trim_l0 ?_
    unfold lombardref01_trim_w0
    rw [e]
    refine Br.pos (by omega) (Num.n (by omega) ⟨l.getD n 0, Got.i ?_ (by omega) (gd (by omega))⟩)
    refine Br.i (fun z => Num.n (by omega) (trim_go l hl n (by omega) fun m hm hv ht => hQ m (by omega) ?_ ht)) (fun z => Lf.i (hQ (n + 1) (Nat.le_refl _) rfl ?_))
    · rw [hv, val_take_succ (by omega), z]; omega
    · intro h
      rw [List.getLast_eq_getElem]
      have e2 : (l.take (n + 1)).length = n + 1 := by rw [List.length_take]; omega
      simp only [e2, Nat.add_sub_cancel, List.getElem_take]
      intro hz
      apply z
      rw [List.getD_eq_getElem?_getD, List.getElem?_eq_getElem (by omega)]
      simpa using hz
theorem trim_r {l : List Int} (hl : l.length ≤ 1000000) (d : Digits l) : lombardref01_trim_r l (big (val l)) := by
  refine lombardref01_trim_of ?_
  unfold lombardref01_trim_w
  rw [lenM_eq]
  refine trim_go l hl l.length (Nat.le_refl _) fun m hm hv ht => CutLh.i ⟨by omega, by omega⟩ (Rt.i ?_)
  rw [Int.toNat_natCast]
  exact isBig_eq ⟨d.take m, ht, by rw [hv, List.take_length]⟩

/-! Of -/
theorem of_go {Q : List Int → Prop} : ∀ (m : Nat) (n : Int) (acc : List Int), 0 ≤ n → n < P m → n < 18446744073709551616 → acc.length + m ≤ 1000000 → (∀ r, IsBig r n → r.length ≤ m → Q (acc ++ r)) → lombardref01_Of_L0 Q n acc
  | 0, n, acc, h0, h1, _, _, hQ => by
    have : n = 0 := by rw [P_zero] at h1; omega
    subst this
    refine lombardref01_Of_l0 ?_
    unfold lombardref01_Of_w0
    refine Br.neg (by omega) (Lf.i ?_)
    have := hQ [] IsBig.nil (by simp)
    rwa [List.append_nil] at this
  | m + 1, n, acc, h0, h1, h2, h3, hQ => by
    refine lombardref01_Of_l0 ?_
    unfold lombardref01_Of_w0
    refine Br.i (fun z => ?_) (fun z => Lf.i ?_)
    · rw [P_succ] at h1
      refine Rem'.i (rq h0 (by omega)).1 (App2.i ⟨by unfold maxLen; simp; omega, by simp; omega⟩ (Quo'.i (rq h0 (by omega)).2 ?_))
      refine of_go m (n / 65536) (acc ++ [n % 65536]) (by omega) (by omega) (by omega) (by simp; omega) fun r ⟨d, t, v⟩ hr => ?_
      have := hQ (n % 65536 :: r) ⟨d.cons (by omega) (by omega), ?_, ?_⟩ (by simp; omega)
      · simpa using this
      · intro h
        cases r with
        | nil => simp only [val] at v; simp only [List.getLast_singleton]; omega
        | cons x xs => rw [List.getLast_cons (by simp)]; exact t (by simp)
      · simp only [val, v]; omega
    · have : n = 0 := by omega
      subst this
      have := hQ [] IsBig.nil (by simp)
      rwa [List.append_nil] at this
theorem Of_r {n : Int} (h0 : 0 ≤ n) (h1 : n < 18446744073709551616) : lombardref01_Of_r n (big n) := by
  refine lombardref01_Of_of ?_
  unfold lombardref01_Of_w
  exact of_go 4 n [] h0 (by simpa [P] using h1) h1 (by simp) fun r hb _ => Rt.i (by rw [List.nil_append]; exact isBig_eq hb)
theorem of_big {n : Int} : ∀ (m : Nat), 0 ≤ n → n < P m → ∃ r, IsBig r n ∧ r.length ≤ m
  | 0, h0, h1 => ⟨[], by rw [P_zero] at h1; rw [show n = 0 by omega]; exact IsBig.nil, by simp⟩
  | m + 1, h0, h1 => by
    by_cases z : n = 0
    · subst z; exact ⟨[], IsBig.nil, by simp⟩
    · rw [P_succ] at h1
      obtain ⟨r, ⟨d, t, v⟩, hr⟩ := of_big (n := n / 65536) m (by omega) (by omega)
      refine ⟨n % 65536 :: r, ⟨d.cons (by omega) (by omega), ?_, by simp only [val, v]; omega⟩, by simp; omega⟩
      intro h
      cases r with
      | nil => simp only [val] at v; simp only [List.getLast_singleton]; omega
      | cons x xs => rw [List.getLast_cons (by simp)]; exact t (by simp)
theorem big_is {n : Int} (m : Nat) (h0 : 0 ≤ n) (h1 : n < P m) : IsBig (big n) n ∧ (big n).length ≤ m := by
  obtain ⟨r, h, hr⟩ := of_big m h0 h1
  rw [← isBig_eq h]; exact ⟨h, hr⟩

/-! Compare -/
theorem compare_go (a b : List Int) (da : Digits a) (db : Digits b) (hab : a.length = b.length) (hl : a.length ≤ 1000000) {Q0 : Int → Prop} {Q1 : Unit → Prop} : ∀ n, n ≤ a.length →
    (val (a.take n) < val (b.take n) → Q0 (-1)) → (val (b.take n) < val (a.take n) → Q0 1) → (val (a.take n) = val (b.take n) → Q1 ()) → lombardref01_Compare_L0 a b Q0 Q1 ((n : Int) - 1)
  | 0, _, _, _, h3 => by
    refine lombardref01_Compare_l0 ?_
    unfold lombardref01_Compare_w0
    exact Br.neg (by omega) (Lf.i (h3 (by simp)))
  | n + 1, hn, h1, h2, h3 => by
    have va := val_take_succ (l := a) (i := n) (by omega)
    have vb := val_take_succ (l := b) (i := n) (by omega)
    have la := val_lt (da.take n)
    have lb := val_lt (db.take n)
    have na := val_nonneg (da.take n)
    have nb := val_nonneg (db.take n)
    rw [List.length_take, Nat.min_eq_left (by omega)] at la lb
    have e : ((n + 1 : Nat) : Int) - 1 = (n : Int) := by omega
    rw [va, vb] at h1 h2 h3
    rw [e]
    have ga := da.get n
    have gb := db.get n
    have p := P_pos n
    refine lombardref01_Compare_l0 ?_
    unfold lombardref01_Compare_w0
    have xa := gd (l := a) (i := n) (by omega)
    have xb := gd (l := b) (i := n) (by omega)
    refine Br.pos (by omega) ⟨_, Got.i ⟨_, Got.i (Br.i (fun c1 => Lf.i (h1 ?_)) (fun c1 => Got.i (Got.i (Br.i (fun c2 => Lf.i (h2 ?_)) (fun c2 => Num.n (by omega) ?_)) (by omega) xb) (by omega) xa)) (by omega) xb⟩ (by omega) xa⟩
    · have : P n * (a.getD n 0 + 1) ≤ P n * b.getD n 0 := Int.mul_le_mul_of_nonneg_left (by omega) (by omega)
      rw [Int.mul_add] at this
      omega
    · have : P n * (b.getD n 0 + 1) ≤ P n * a.getD n 0 := Int.mul_le_mul_of_nonneg_left (by omega) (by omega)
      rw [Int.mul_add] at this
      omega
    · have q : a.getD n 0 = b.getD n 0 := by omega
      rw [q] at h1 h2 h3
      exact compare_go a b da db hab hl n (by omega) (fun h => h1 (by omega)) (fun h => h2 (by omega)) (fun h => h3 (by omega))
def cmpS (a b : List Int) : Int := if a.length ≠ b.length then (a.length : Int) - b.length else if val a < val b then -1 else if val b < val a then 1 else 0
theorem Compare_r {a b : List Int} {m n : Int} (ha : IsBig a m) (hb : IsBig b n) (la : a.length ≤ 1000000) (lb : b.length ≤ 1000000) : lombardref01_Compare_r a b (cmpS a b) := by
  refine lombardref01_Compare_of ?_
  unfold lombardref01_Compare_w cmpS
  rw [lenM_eq, lenM_eq]
  refine Br.i (fun h => Num.n (by omega) (Rt.i ?_)) (fun h => Num.n (by omega) ?_)
  · rw [if_pos (by omega)]
  · rw [if_neg (by omega)]
    have h : a.length = b.length := by omega
    have := compare_go a b ha.1 hb.1 h la (Q0 := fun y1 => lombardref01_Compare_e (fun v_ => v_ = if val a < val b then (-1 : Int) else if val b < val a then 1 else 0) y1) (Q1 := fun _ => lombardref01_Compare_e (fun v_ => v_ = if val a < val b then (-1 : Int) else if val b < val a then 1 else 0) 0) a.length (Nat.le_refl _)
    rw [List.take_length, h, List.take_length] at this
    rw [h]
    refine this (fun c => Rt.i (by rw [if_pos c])) (fun c => Rt.i (by rw [if_neg (by omega), if_pos c])) (fun c => Rt.i (by rw [if_neg (by omega), if_neg (by omega)]))
theorem cmpS_spec {a b : List Int} {m n : Int} (ha : IsBig a m) (hb : IsBig b n) : (cmpS a b < 0 ↔ m < n) ∧ (cmpS a b = 0 ↔ m = n) := by
  unfold cmpS
  by_cases h : a.length = b.length
  · rw [if_neg (by omega), ha.2.2, hb.2.2]
    split
    · omega
    · split <;> omega
  · rw [if_pos h]
    constructor
    · constructor
      · intro _; exact ha.lt_of_len hb (by omega)
      · intro hlt
        by_cases c : b.length < a.length
        · have := hb.lt_of_len ha c; omega
        · omega
    · constructor
      · intro _; omega
      · intro e
        rcases Nat.lt_or_gt_of_ne h with c | c
        · have := ha.lt_of_len hb c; omega
        · have := hb.lt_of_len ha c; omega

/-! Add -/
theorem add_go (a b : List Int) (da : Digits a) (db : Digits b) (la : a.length ≤ 1000) (lb : b.length ≤ 1000) {Q : List Int → Prop} : ∀ (f i : Nat) (out : List Int) (c : Int),
    Digits out → out.length = i → 0 ≤ c → c ≤ 2 → (i < a.length ∨ i < b.length → a.length + 1 ≤ i + f ∧ b.length + 1 ≤ i + f) ∧ (c > 0 → 1 ≤ f) → i + f ≤ 5000 →
    (∀ r, Digits r → val r = val out + P i * (c + val (a.drop i) + val (b.drop i)) → r.length ≤ i + f → Q r) → lombardref01_Add_L0 a b Q c (i : Int) out := by
  intro f
  induction f with
  | zero =>
    intro i out c dout hi c0 c1 hf hlim hQ
    have z : c = 0 := by omega
    subst z
    refine lombardref01_Add_l0 ?_
    unfold lombardref01_Add_w0
    rw [lenM_eq, lenM_eq]
    refine Br.neg (by omega) (Br.neg (by omega) (Br.neg (by omega) (Lf.i (hQ out dout ?_ (by omega)))))
    rw [val_drop_end (by omega), val_drop_end (by omega)]; simp
  | succ f ih =>
    intro i out c dout hi c0 c1 hf hlim hQ
    have ga := da.get i
    have gb := db.get i
    -- one digit
    have step : ∀ n : Int, 0 ≤ n → n < 196608 → (n / 65536 > 0 → i < a.length ∨ i < b.length) → val out + P i * (c + val (a.drop i) + val (b.drop i)) = val out + P i * (n + 65536 * (val (a.drop (i + 1)) + val (b.drop (i + 1)))) →
        lombardref01_Add_L0 a b Q (n / 65536) (i + 1 : Nat) (out ++ [n % 65536]) := by
      intro n n0 n1 hc hv
      refine ih (i + 1) (out ++ [n % 65536]) (n / 65536) (dout.append (Digits.nil.cons (by omega) (by omega))) (by simp [hi]) (by omega) (by omega) (by
        refine ⟨fun h => ?_, fun h => ?_⟩
        · have := hf.1 (by omega); omega
        · have := hf.1 (hc h); omega) (by omega) fun r dr hr hl => hQ r dr ?_ (by omega)
      rw [hr, hv, val_append, hi, P_succ]
      have e1 : val [n % 65536] = n % 65536 := by simp [val]
      rw [e1]
      have e2 : n = n % 65536 + 65536 * (n / 65536) := by omega
      generalize n % 65536 = x at *
      generalize n / 65536 = y at *
      subst e2
      grind
    have last : ∀ n : Int, 0 ≤ n → n < 196608 → (n / 65536 > 0 → i < a.length ∨ i < b.length) → val out + P i * (c + val (a.drop i) + val (b.drop i)) = val out + P i * (n + 65536 * (val (a.drop (i + 1)) + val (b.drop (i + 1)))) →
        lombardref01_Add_j11 a b (i : Int) out (lombardref01_Add_L0 a b Q) Q n := by
      intro n n0 n1 hc hv
      have h := step n n0 n1 hc hv
      refine Jn.i (Rem'.i (rq n0 (by omega)).1 (App2.i ⟨by unfold maxLen; simp; omega, by simp; omega⟩ (Quo'.i (rq n0 (by omega)).2 (Num.n (by omega) ?_))))
      exact h
    have mid : ∀ n : Int, 0 ≤ n → n ≤ 131070 → (¬ i < b.length → n / 65536 > 0 → i < a.length) → val out + P i * (c + val (a.drop i) + val (b.drop i)) = val out + P i * (n + 65536 * val (a.drop (i + 1)) + val (b.drop i)) →
        lombardref01_Add_j10 a b (i : Int) out (lombardref01_Add_L0 a b Q) Q n := by
      intro n n0 n1 hc hv
      refine Jn.i ?_
      rw [lenM_eq]
      refine Br.i (fun hb => ⟨_, Got.i ?_ (by omega) (gd (l := b) (i := i) (by omega))⟩) (fun hb => ?_)
      · rw [u64 (by omega) (by omega)]
        have vb := val_drop (l := b) (i := i) (by omega)
        exact last _ (by omega) (by omega) (fun _ => .inr (by omega)) (by rw [hv, vb]; grind)
      · have vb := val_drop_end (l := b) (i := i) (by omega)
        have vb2 := val_drop_end (l := b) (i := i + 1) (by omega)
        exact last _ (by omega) (by omega) (fun h => .inl (hc (by omega) h)) (by rw [hv, vb, vb2]; grind)
    have first : (i < a.length ∨ i < b.length ∨ c > 0) → lombardref01_Add_j9 a b c (i : Int) out (lombardref01_Add_L0 a b Q) Q () := by
      intro _
      refine Jn.i ?_
      rw [lenM_eq]
      refine Br.i (fun ha => ⟨_, Got.i ?_ (by omega) (gd (l := a) (i := i) (by omega))⟩) (fun ha => ?_)
      · rw [u64 (by omega) (by omega)]
        have va := val_drop (l := a) (i := i) (by omega)
        exact mid _ (by omega) (by omega) (fun _ _ => by omega) (by rw [va]; grind)
      · have va := val_drop_end (l := a) (i := i) (by omega)
        have va2 := val_drop_end (l := a) (i := i + 1) (by omega)
        exact mid _ (by omega) (by omega) (fun _ h => by omega) (by rw [va, va2]; grind)
    refine lombardref01_Add_l0 ?_
    unfold lombardref01_Add_w0
    rw [lenM_eq, lenM_eq]
    refine Br.i (fun h => first (by omega)) (fun h1 => Br.i (fun h => first (by omega)) (fun h2 => Br.i (fun h => first (by omega)) (fun h3 => Lf.i (hQ out dout ?_ (by omega)))))
    have va := val_drop_end (l := a) (i := i) (by omega)
    have vb := val_drop_end (l := b) (i := i) (by omega)
    rw [va, vb, show c = 0 by omega]; simp
theorem Add_r {a b : List Int} {m n : Int} (ha : IsBig a m) (hb : IsBig b n) (la : a.length ≤ 1000) (lb : b.length ≤ 1000) : lombardref01_Add_r a b (big (m + n)) := by
  refine lombardref01_Add_of ?_
  unfold lombardref01_Add_w
  refine add_go a b ha.1 hb.1 la lb (a.length + b.length + 1) 0 [] 0 Digits.nil rfl (by omega) (by omega) (by omega) (by omega) fun r dr hr hl => ⟨_, trim_r (by omega) dr, Rt.i ?_⟩
  have : val r = m + n := by rw [hr]; simp [val, P_zero, ha.2.2, hb.2.2]
  rw [this]

/-! Sub -/
theorem sub_alg (A p x y va vb ai c d : Int) (e : ai + 65536 - c - d = x + 65536 * y) : A + p * x + 65536 * p * (va - (1 - y) - vb) = A + p * (ai + 65536 * va - c - (d + 65536 * vb)) := by
  have h : ai = x + 65536 * y - 65536 + c + d := by omega
  subst h
  clear e
  simp only [Int.mul_sub, Int.mul_add, Int.mul_one, Int.mul_assoc, Int.mul_left_comm p 65536]
  omega
theorem sub_go (a b : List Int) (da : Digits a) (db : Digits b) (la : a.length ≤ 1000) (D : Int) (hD : 0 ≤ D) {Q : List Int → Prop} (hQ : ∀ r, Digits r → val r = D → r.length ≤ a.length → Q r) : ∀ (f i : Nat) (out : List Int) (c : Int),
    Digits out → out.length = i → 0 ≤ c → c ≤ 1 → i ≤ a.length → a.length - i = f → val out + P i * (val (a.drop i) - c - val (b.drop i)) = D → lombardref01_Sub_L0 a b Q c (i : Int) out := by
  intro f
  induction f with
  | zero =>
    intro i out c dout hi c0 c1 hia hf hv
    have e : val out = D := by
      rw [val_drop_end (l := a) (by omega)] at hv
      have h1 := val_lt dout
      have h2 := val_nonneg (db.drop i)
      rw [hi] at h1
      by_cases z : c + val (b.drop i) = 0
      · have z1 : (0 : Int) - c - val (b.drop i) = 0 := by omega
        rw [z1] at hv; omega
      · have : P i * (0 - c - val (b.drop i)) ≤ P i * (-1) := Int.mul_le_mul_of_nonneg_left (by omega) (by have := P_pos i; omega)
        omega
    refine lombardref01_Sub_l0 ?_
    unfold lombardref01_Sub_w0
    rw [lenM_eq]
    exact Br.neg (by omega) (Lf.i (hQ out dout e (by omega)))
  | succ f ih =>
    intro i out c dout hi c0 c1 hia hf hv
    have ha : i < a.length := by clear hv ih; omega
    have hf' : a.length - (i + 1) = f := by clear hv ih; omega
    have hi' : i + 1 ≤ a.length := by clear hv ih; omega
    clear hf hia
    have ga := da.get i
    have gb := db.get i
    have va := val_drop ha
    have go : ∀ d : Int, 0 ≤ d → d < 65536 → val (b.drop i) = d + 65536 * val (b.drop (i + 1)) →
        lombardref01_Sub_L0 a b Q (1 - (a.getD i 0 + 65536 - c - d) / 65536) (i + 1 : Nat) (out ++ [(a.getD i 0 + 65536 - c - d) % 65536]) := by
      intro d d0 d1 vb
      refine ih (i + 1) (out ++ [(a.getD i 0 + 65536 - c - d) % 65536]) (1 - (a.getD i 0 + 65536 - c - d) / 65536)
        (dout.append (Digits.nil.cons (by omega) (by omega))) (by simp [hi]) (by clear hv va vb; omega) (by clear hv va vb; omega) hi' hf' (by
          rw [val_append, hi, P_succ, ← hv, va, vb]
          have e1 : val [(a.getD i 0 + 65536 - c - d) % 65536] = (a.getD i 0 + 65536 - c - d) % 65536 := by simp [val]
          rw [e1]
          exact sub_alg _ _ _ _ _ _ _ _ _ (by clear hv va vb; omega))
    clear hv ih
    refine lombardref01_Sub_l0 ?_
    unfold lombardref01_Sub_w0
    rw [lenM_eq, lenM_eq]
    refine Br.pos (by omega) ⟨_, Got.i ?_ (by omega) (gd ha)⟩
    rw [u64 (x := a.getD i 0 + 65536) (by omega) (by omega), u64 (x := a.getD i 0 + 65536 - c) (by omega) (by omega)]
    have ap : App 8 (out.length + 1) := ⟨by unfold maxLen; omega, by omega⟩
    refine Br.i (fun hb => ⟨_, Got.i ?_ (by omega) (gd (l := b) (i := i) (by omega))⟩) (fun hb => ?_)
    · rw [u64 (x := a.getD i 0 + 65536 - c - b.getD i 0) (by omega) (by omega)]
      have h := go (b.getD i 0) (by omega) (by omega) (val_drop (by omega))
      refine Rem'.i (rq (by omega) (by omega)).1 (App2.i ap (Quo'.i (rq (by omega) (by omega)).2 (Num.n (by omega) ?_)))
      rw [u64 (by omega) (by omega)]
      exact h
    · have h := go 0 (by omega) (by omega) (by have z1 := val_drop_end (l := b) (i := i) (by omega); have z2 := val_drop_end (l := b) (i := i + 1) (by omega); omega)
      rw [Int.sub_zero] at h
      refine Rem'.i (rq (by omega) (by omega)).1 (App2.i ap (Quo'.i (rq (by omega) (by omega)).2 (Num.n (by omega) ?_)))
      rw [u64 (by omega) (by omega)]
      exact h
theorem Sub_r {a b : List Int} {m n : Int} (ha : IsBig a m) (hb : IsBig b n) (la : a.length ≤ 1000) (h : n ≤ m) : lombardref01_Sub_r a b (big (m - n)) := by
  refine lombardref01_Sub_of ?_
  unfold lombardref01_Sub_w
  refine sub_go a b ha.1 hb.1 la (m - n) (by omega) (fun r dr hr hl => ⟨_, trim_r (by omega) dr, Rt.i (by rw [hr])⟩) a.length 0 [] 0 Digits.nil rfl (by omega) (by omega) (by omega) (by omega) (by
    simp only [val, P_zero, List.drop_zero, ha.2.2, hb.2.2]; omega)
end Go.Proofs.Ytfommamkaaggjaa.Pure
