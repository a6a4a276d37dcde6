-- a shortened text: what this claim does not name is left out (wip/xprint/prune.py of this repo)
import Derived.Test.YtlbhjkbjokiioaaPBigB
namespace Go.Proofs.Ytlbhjkbjokiioaa.PBig
open Go Go.RowKit Go.Proofs.Ytlbhjkbjokiioaa.X Go.Proofs.YtlbhjkbjokiioaaW.PrintWords Go.Proofs.YtlbhjkbjokiioaaW.PrintLast Go.Proofs.Ytlbhjkbjokiioaa.Big
theorem sq_bd {x y : Int} (x0 : 0 ≤ x) (x1 : x < 65536) (y0 : 0 ≤ y) (y1 : y < 65536) : 0 ≤ x * y ∧ x * y ≤ 4294836225 := by
  constructor
  · exact Int.mul_nonneg x0 y0
  · have h1 : x * y ≤ x * 65535 := Int.mul_le_mul_of_nonneg_left (by omega) x0
    omega
theorem mul_alg (A p o c ai bk vb x y : Int) (e : o + c + ai * bk = x + 65536 * y) : A + (x - o) * p + 65536 * p * y + 65536 * p * (ai * vb) = A + p * c + p * (ai * (bk + 65536 * vb)) := by
  have e1 : (x - o) * p = p * c + p * (ai * bk) - 65536 * (p * y) := by
    rw [show x - o = c + ai * bk - 65536 * y by omega, Int.mul_comm]
    simp only [Int.mul_sub, Int.mul_add, Int.mul_left_comm p 65536]
  have e2 : 65536 * p * y = 65536 * (p * y) := Int.mul_assoc _ _ _
  have e3 : 65536 * p * (ai * vb) = 65536 * (p * (ai * vb)) := Int.mul_assoc _ _ _
  have e4 : p * (ai * (bk + 65536 * vb)) = p * (ai * bk) + 65536 * (p * (ai * vb)) := by
    simp only [Int.mul_add, Int.mul_left_comm ai 65536, Int.mul_left_comm p 65536]
  omega
theorem mul_alg0 (A p c ai x y : Int) (e : c = x + 65536 * y) : A + (x - 0) * p + 65536 * p * y + 65536 * p * (ai * 0) = A + p * c + p * (ai * 0) := by
  subst e
  have e1 : (x - 0) * p = p * x := by rw [Int.sub_zero, Int.mul_comm]
  have e2 : 65536 * p * y = 65536 * (p * y) := Int.mul_assoc _ _ _
  have e3 : p * (x + 65536 * y) = p * x + 65536 * (p * y) := by simp only [Int.mul_add, Int.mul_left_comm p 65536]
  simp only [Int.mul_zero]
  omega
def Same (a b : Int) : Prop := a = b
theorem ex_step {Q : List Int → Prop} {g f : Nat → Option (List Int)} (h : ∀ k, g (k + 1) = f k) (k : ∃ r, Ev f r ∧ Q r) : ∃ r, Ev g r ∧ Q r := by
  obtain ⟨r, he, hq⟩ := k
  exact ⟨r, Ev.step h he, hq⟩
theorem mul_row (a b : List Int) (da : Digits a) (db : Digits b) (la : a.length ≤ 1000) (lb : b.length ≤ 1000) (i : Nat) (hi : i < a.length) (V : Int) (Q : List Int → Prop) :
    ∀ (f k : Nat) (out : List Int) (c : Int), Digits out → out.length = a.length + b.length + 1 → 0 ≤ c → c < 65536 → k ≤ b.length + 1 → (c > 0 → k ≤ b.length) → k + f = b.length + 1 →
      (∀ j, i + k ≤ j → i + b.length ≤ j → out.getD j 0 = 0) → Same (val out + P (i + k) * c + P (i + k) * (a.getD i 0 * val (b.drop k))) V →
      (∀ o : List Int, Digits o → o.length = a.length + b.length + 1 → val o = V → ∃ r, Ev (fun q => lombardref01_Mul.l0 q a b o ((i + 1 : Nat) : Int)) r ∧ Q r) →
      ∃ r, Ev (fun q => lombardref01_Mul.l1 q a b out (i : Int) c (k : Int)) r ∧ Q r := by
  intro f
  induction f with
  | zero =>
    intro k out c dout ho c0 c1 hk hck hf hz hv hend
    have z : c = 0 := by omega
    subst z
    have ew : wrap64 ((i : Int) + 1) = ((i + 1 : Nat) : Int) := by rw [w64 (by omega) (by omega)]; omega
    refine ex_step (f := fun q => lombardref01_Mul.j2 q a b out i 0 k false) (fun q => ?_) (ex_step (fun q => ?_) (hend out dout ho ?_))
    · simp only [lombardref01_Mul.l1]
      rw [if_neg (by omega), decide_eq_false (by omega)]
    · simp only [lombardref01_Mul.j2, ew]
      rw [if_neg (by simp)]
    · have h2 : _ = V := hv
      rw [val_drop_end (by omega)] at h2; simpa using h2
  | succ f ih =>
    intro k out c dout ho c0 c1 hk hck hf hz hv hend
    have ew : wrap64 ((i : Int) + 1) = ((i + 1 : Nat) : Int) := by rw [w64 (by omega) (by omega)]; omega
    have ek : wrap64 ((k : Int) + 1) = ((k + 1 : Nat) : Int) := by rw [w64 (by omega) (by omega)]; omega
    have eik : wrap64 ((i : Int) + (k : Int)) = ((i + k : Nat) : Int) := by rw [w64 (by omega) (by omega)]; omega
    have go := dout.get (i + k)
    have ga := da.get i
    by_cases hb : k < b.length
    · have gb := db.get k
      have vb := val_drop hb
      obtain ⟨s0, s1⟩ := sq_bd ga.1 ga.2 gb.1 gb.2
      have n1 := ih (k + 1) (out.set (i + k) ((out.getD (i + k) 0 + c + a.getD i 0 * b.getD k 0) % 65536)) ((out.getD (i + k) 0 + c + a.getD i 0 * b.getD k 0) / 65536)
        (dout.set _ (by omega) (by omega)) (by simpa using ho) (by omega) (by omega) (by omega) (by omega) (by omega)
        (fun j h1 h2 => by rw [List.getD_eq_getElem?_getD, List.getElem?_set_ne (by omega), ← List.getD_eq_getElem?_getD]; exact hz j (by omega) h2) (by
          have h2 : _ = V := hv
          show _ = V
          rw [val_set (by omega), ← h2, vb, show i + (k + 1) = i + k + 1 by omega, P_succ]
          exact mul_alg _ _ _ _ _ _ _ _ _ (by omega)) hend
      refine ex_step (f := fun q => lombardref01_Mul.j2 q a b out i c k true) (fun q => ?_) (ex_step (fun q => ?_) n1)
      · simp only [lombardref01_Mul.l1]
        rw [if_pos (by omega)]
      · simp only [lombardref01_Mul.j2, eik, ek, rd_nat]
        rw [if_pos trivial, if_pos (by omega), if_pos (by omega), if_pos (by omega), if_pos (by omega), if_pos (by omega), if_pos (by omega), Int.toNat_natCast,
          u64 (x := out.getD (i + k) 0 + c) (by omega) (by omega), u64 (x := a.getD i 0 * b.getD k 0) (by omega) (by omega), u64 (x := out.getD (i + k) 0 + c + a.getD i 0 * b.getD k 0) (by omega) (by omega), td (by omega), tm (by omega), u64 (by omega) (by omega)]
    · have vb := val_drop_end (l := b) (i := k) (by omega)
      have vb2 := val_drop_end (l := b) (i := k + 1) (by omega)
      have oz : out.getD (i + k) 0 = 0 := hz (i + k) (Nat.le_refl _) (by omega)
      by_cases cz : c > 0
      · have n1 := ih (k + 1) (out.set (i + k) (c % 65536)) (c / 65536)
          (dout.set _ (by omega) (by omega)) (by simpa using ho) (by omega) (by omega) (by have := hck cz; omega) (by omega) (by omega)
          (fun j h1 h2 => by rw [List.getD_eq_getElem?_getD, List.getElem?_set_ne (by omega), ← List.getD_eq_getElem?_getD]; exact hz j (by omega) h2) (by
            have := hck cz
            have h2 : _ = V := hv
            show _ = V
            rw [val_set (by omega), ← h2, vb, vb2, oz, show i + (k + 1) = i + k + 1 by omega, P_succ]
            exact mul_alg0 _ _ _ _ _ _ (by omega)) hend
        refine ex_step (f := fun q => lombardref01_Mul.j2 q a b out i c k true) (fun q => ?_) (ex_step (fun q => ?_) n1)
        · simp only [lombardref01_Mul.l1]
          rw [if_neg (by omega), decide_eq_true cz]
        · have := hck cz
          simp only [lombardref01_Mul.j2, eik, ek, rd_nat, oz]
          rw [if_pos trivial, if_pos (by omega), if_pos (by omega), if_neg (by omega), Int.toNat_natCast, Int.zero_add, u64 (x := c) (by omega) (by omega), td (by omega), tm (by omega), u64 (by omega) (by omega)]
      · have z : c = 0 := by omega
        subst z
        refine ex_step (f := fun q => lombardref01_Mul.j2 q a b out i 0 k false) (fun q => ?_) (ex_step (fun q => ?_) (hend out dout ho ?_))
        · simp only [lombardref01_Mul.l1]
          rw [if_neg (by omega), decide_eq_false (by omega)]
        · simp only [lombardref01_Mul.j2, ew]
          rw [if_neg (by simp)]
        · have h2 : _ = V := hv
          rw [vb] at h2; simpa using h2
theorem mul_go (a b : List Int) (da : Digits a) (db : Digits b) (la : a.length ≤ 1000) (lb : b.length ≤ 1000) : ∀ (f i : Nat) (out : List Int), i + f = a.length → Digits out → out.length = a.length + b.length + 1 → Same (val out) (val (a.take i) * val b) →
    ∃ r, Ev (fun q => lombardref01_Mul.l0 q a b out (i : Int)) r ∧ IsBig r (val a * val b) ∧ r.length ≤ a.length + b.length + 1 := by
  intro f
  induction f with
  | zero =>
    intro i out hi dout ho hv
    have e : a.take i = a := by rw [List.take_of_length_le (by omega)]
    have h2 : _ = _ := hv
    rw [e] at h2
    obtain ⟨r, he, hb, hr⟩ := trim_ev (l := out) (by omega) dout
    refine ⟨r, Ev.step (f := fun k => (lombardref01_trim.f k out).bind fun t => some t) (fun k => ?_) (Ev.bind he (Ev.now _)), h2 ▸ hb, by omega⟩
    simp only [lombardref01_Mul.l0]
    rw [if_neg (by omega)]
  | succ f ih =>
    intro i out hi dout ho hv
    have hlt : i < a.length := by omega
    have hbound : val out < P (i + b.length) := by
      have h2 : _ = _ := hv
      rw [h2, P_add]
      have h1 := val_lt (da.take i)
      have h2 := val_lt db
      have h3 := val_nonneg (da.take i)
      have h4 := val_nonneg db
      have h5 := P_pos i
      rw [List.length_take, Nat.min_eq_left (by omega)] at h1
      have h6 : val (a.take i) * val b ≤ P i * val b := Int.mul_le_mul_of_nonneg_right (by omega) h4
      have h7 : P i * (val b + 1) ≤ P i * P b.length := Int.mul_le_mul_of_nonneg_left (by omega) (by omega)
      rw [Int.mul_add] at h7
      clear h2 hv ih
      omega
    obtain ⟨r, he, hq⟩ := mul_row a b da db la lb i hlt (val (a.take (i + 1)) * val b) (fun r => IsBig r (val a * val b) ∧ r.length ≤ a.length + b.length + 1) (b.length + 1) 0 out 0 dout ho (by omega) (by omega) (by omega) (by omega) (by omega)
      (fun j _ h2 => digit_zero dout hbound h2) (by
        have h2 : _ = _ := hv
        show _ = _
        rw [val_take_succ hlt, h2, Nat.add_zero, List.drop_zero, Int.mul_zero, Int.add_zero, Int.add_mul, Int.mul_assoc]) (fun o d0 h0 v0 => ih (i + 1) o (by omega) d0 h0 v0)
    refine ⟨r, Ev.step (f := fun q => lombardref01_Mul.l1 q a b out i 0 0) (fun q => ?_) he, hq⟩
    simp only [lombardref01_Mul.l0]
    rw [if_pos (by omega)]
theorem mul_ev {a b : List Int} {m n : Int} (ha : IsBig a m) (hb : IsBig b n) (la : a.length ≤ 1000) (lb : b.length ≤ 1000) :
    ∃ r, Ev (fun k => lombardref01_Mul.f k a b) r ∧ IsBig r (m * n) ∧ r.length ≤ a.length + b.length + 1 := by
  obtain ⟨r, he, h, hr⟩ := mul_go a b ha.1 hb.1 la lb a.length 0 (List.replicate (a.length + b.length + 1) 0) (by omega) (Digits.zeros _) (by simp) (by show _ = _; rw [val_zeros]; simp [val])
  rw [ha.2.2, hb.2.2] at h
  refine ⟨r, Ev.congr (fun k => ?_) he, h, hr⟩
  unfold lombardref01_Mul.f
  have e1 : wrap64 ((a.length : Int) + (b.length : Int)) = ((a.length + b.length : Nat) : Int) := by rw [w64 (by omega) (by omega)]; omega
  have e2 : wrap64 (((a.length + b.length : Nat) : Int) + 1) = ((a.length + b.length + 1 : Nat) : Int) := by rw [w64 (by omega) (by omega)]; omega
  rw [e1, e2, if_pos (by omega), Int.toNat_natCast, if_pos (by omega)]
  rfl
end Go.Proofs.Ytlbhjkbjokiioaa.PBig
