-- a shortened text: what this claim does not name is left out (wip/xprint/prune.py of this repo)
import Derived.Test.YtlbhjkbjokiioaaPBig
namespace Go.Proofs.Ytlbhjkbjokiioaa.PBig
open Go Go.RowKit Go.Proofs.Ytlbhjkbjokiioaa.X Go.Proofs.YtlbhjkbjokiioaaW.PrintWords Go.Proofs.YtlbhjkbjokiioaaW.PrintLast Go.Proofs.Ytlbhjkbjokiioaa.Big
theorem sub_alg (A p x y va vb ai c d : Int) (e : ai + 65536 - c - d = x + 65536 * y) : A + p * x + 65536 * p * (va - (1 - y) - vb) = A + p * (ai + 65536 * va - c - (d + 65536 * vb)) := by
  have h : ai = x + 65536 * y - 65536 + c + d := by omega
  subst h
  clear e
  simp only [Int.mul_sub, Int.mul_add, Int.mul_one, Int.mul_assoc, Int.mul_left_comm p 65536]
  omega
theorem sub_go (a b : List Int) (da : Digits a) (db : Digits b) (la : a.length ≤ 1000) (D : Int) (hD : 0 ≤ D) : ∀ (f i : Nat) (out : List Int) (c : Int),
    Digits out → out.length = i → 0 ≤ c → c ≤ 1 → i ≤ a.length → a.length - i = f → val out + P i * (val (a.drop i) - c - val (b.drop i)) = D →
    ∃ r, Ev (fun k => lombardref01_Sub.l0 k a b out c (i : Int)) r ∧ IsBig r D ∧ r.length ≤ a.length := by
  intro f
  induction f with
  | zero =>
    intro i out c dout hi c0 c1 hia hf hv
    obtain ⟨r, he, hb, hr⟩ := trim_ev (l := out) (by omega) dout
    have e : val out = D := by
      rw [val_drop_end (l := a) (by omega)] at hv
      have h1 := val_lt dout
      have h2 := val_nonneg (db.drop i)
      rw [hi] at h1
      by_cases z : c + val (b.drop i) = 0
      · have z1 : (0 : Int) - c - val (b.drop i) = 0 := by omega
        rw [z1] at hv; omega
      · have : P i * (0 - c - val (b.drop i)) ≤ P i * (-1) := Int.mul_le_mul_of_nonneg_left (by omega) (by have := P_pos i; omega)
        omega
    refine ⟨r, ?_, e ▸ hb, by omega⟩
    refine Ev.step (f := fun k => (lombardref01_trim.f k out).bind fun t => some t) (fun k => ?_) (Ev.bind he (Ev.now _))
    simp only [lombardref01_Sub.l0]
    rw [if_neg (by omega)]
  | succ f ih =>
    intro i out c dout hi c0 c1 hia hf hv
    have ha : i < a.length := by clear hv ih; omega
    have hf' : a.length - (i + 1) = f := by clear hv ih; omega
    have hi' : i + 1 ≤ a.length := by clear hv ih; omega
    clear hf hia
    have ga := da.get i
    have gb := db.get i
    have ew : wrap64 ((i : Int) + 1) = ((i + 1 : Nat) : Int) := by rw [w64 (by omega) (by omega)]; omega
    have va := val_drop ha
    have go : ∀ d : Int, 0 ≤ d → d < 65536 → val (b.drop i) = d + 65536 * val (b.drop (i + 1)) →
        (∀ k, lombardref01_Sub.l0 (k + 1) a b out c i = lombardref01_Sub.l0 k a b (out ++ [(a.getD i 0 + 65536 - c - d) % 65536]) (1 - (a.getD i 0 + 65536 - c - d) / 65536) (i + 1 : Nat)) →
        ∃ r, Ev (fun k => lombardref01_Sub.l0 k a b out c (i : Int)) r ∧ IsBig r D ∧ r.length ≤ a.length := by
      intro d d0 d1 vb hl
      obtain ⟨r, he, hb, hr⟩ := ih (i + 1) (out ++ [(a.getD i 0 + 65536 - c - d) % 65536]) (1 - (a.getD i 0 + 65536 - c - d) / 65536)
        (dout.append (Digits.nil.cons (by omega) (by omega))) (by simp [hi]) (by clear hv va vb; omega) (by clear hv va vb; omega) hi' hf' (by
          rw [val_append, hi, P_succ, ← hv, va, vb]
          have e1 : val [(a.getD i 0 + 65536 - c - d) % 65536] = (a.getD i 0 + 65536 - c - d) % 65536 := by simp [val]
          rw [e1]
          exact sub_alg _ _ _ _ _ _ _ _ _ (by clear hv va vb; omega))
      exact ⟨r, Ev.step hl he, hb, hr⟩
    clear hv ih
    by_cases hb : i < b.length
    · refine go (b.getD i 0) (by omega) (by omega) (val_drop hb) (fun k => ?_)
      simp only [lombardref01_Sub.l0]
      rw [if_pos (by omega), if_pos (by omega), if_pos (by omega), if_pos (by omega), rd_nat, rd_nat, u64 (x := a.getD i 0 + 65536) (by omega) (by omega), u64 (x := a.getD i 0 + 65536 - c) (by omega) (by omega), u64 (x := a.getD i 0 + 65536 - c - b.getD i 0) (by omega) (by omega), td (by omega), tm (by omega), u64 (x := (a.getD i 0 + 65536 - c - b.getD i 0) / 65536) (by omega) (by omega), u64 (by omega) (by omega), ew]
    · refine go 0 (by omega) (by omega) (by have z1 := val_drop_end (l := b) (i := i) (by omega); have z2 := val_drop_end (l := b) (i := i + 1) (by omega); omega) (fun k => ?_)
      simp only [lombardref01_Sub.l0, Int.sub_zero]
      rw [if_pos (by omega), if_pos (by omega), if_neg (by omega), if_pos (by omega), rd_nat, u64 (x := a.getD i 0 + 65536) (by omega) (by omega), u64 (x := a.getD i 0 + 65536 - c) (by omega) (by omega), td (by omega), tm (by omega), u64 (x := (a.getD i 0 + 65536 - c) / 65536) (by omega) (by omega), u64 (by omega) (by omega), ew]
theorem sub_ev {a b : List Int} {m n : Int} (ha : IsBig a m) (hb : IsBig b n) (la : a.length ≤ 1000) (h : n ≤ m) :
    ∃ r, Ev (fun k => lombardref01_Sub.f k a b) r ∧ IsBig r (m - n) ∧ r.length ≤ a.length :=
  sub_go a b ha.1 hb.1 la (m - n) (by omega) a.length 0 [] 0 Digits.nil rfl (by omega) (by omega) (by omega) (by omega) (by
    simp only [val, P_zero, List.drop_zero, ha.2.2, hb.2.2]; omega)
end Go.Proofs.Ytlbhjkbjokiioaa.PBig
