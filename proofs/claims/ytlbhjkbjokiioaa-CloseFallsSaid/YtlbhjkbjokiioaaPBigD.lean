-- a shortened text: what this claim does not name is left out (wip/xprint/prune.py of this repo)
import Derived.Test.YtlbhjkbjokiioaaPBigC
namespace Go.Proofs.Ytlbhjkbjokiioaa.PBig
open Go Go.RowKit Go.Proofs.Ytlbhjkbjokiioaa.X Go.Proofs.YtlbhjkbjokiioaaW.PrintWords Go.Proofs.YtlbhjkbjokiioaaW.PrintLast Go.Proofs.Ytlbhjkbjokiioaa.Big
theorem ex_step2 {α : Type} {Q : α → Prop} {g f : Nat → Option α} (h : ∀ k, g (k + 1) = f k) (k : ∃ r, Ev f r ∧ Q r) : ∃ r, Ev g r ∧ Q r := by
  obtain ⟨r, he, hq⟩ := k
  exact ⟨r, Ev.step h he, hq⟩
theorem div_row (a b q rest : List Int) (vb R : Int) (hb : IsBig b vb) (hr : IsBig rest R) (lb : b.length ≤ 900) (lr : rest.length ≤ 1000) (i : Nat) (hi : i < q.length) (hq : q.length ≤ 1000) (Q : List Int × List Int → Prop)
    (hend : ∀ (d : Int) (rest' : List Int), 0 ≤ d → d < 65536 → IsBig rest' (R - d * vb) → R - d * vb < vb → ∃ r, Ev (fun k => lombardref01_Div.l0 k a b (q.set i d) rest' ((i : Int) - 1)) r ∧ Q r) :
    ∀ (n : Nat) (lo hi : Int), 0 ≤ lo → lo < hi → hi ≤ 65536 → hi - lo ≤ 2 ^ n → lo * vb ≤ R → R < hi * vb → ∃ r, Ev (fun k => lombardref01_Div.l1 k a b q rest (i : Int) lo hi) r ∧ Q r := by
  intro n
  induction n with
  | zero =>
    intro lo hi0 l0 l1 l2 l3 l4 l5
    have e : hi0 = lo + 1 := by simp at l3; omega
    subst e
    obtain ⟨x, ex, bx, lx⟩ := of_ev l0 (by omega)
    obtain ⟨y, ey, by_, ly⟩ := mul_ev bx hb (by omega) (by omega)
    obtain ⟨z, ez, bz, lz⟩ := sub_ev hr by_ lr l4
    have ew : wrap64 ((i : Int) - 1) = (i : Int) - 1 := w64 (by omega) (by omega)
    have l6 : R - lo * vb < vb := by rw [Int.add_mul, Int.one_mul] at l5; omega
    obtain ⟨r, he, hQ⟩ := hend lo z l0 (by omega) bz l6
    refine ex_step2 (f := fun k => (lombardref01_Of.f k lo).bind fun t204 => (lombardref01_Mul.f k t204 b).bind fun t207 => (lombardref01_Sub.f k rest t207).bind fun t210 => lombardref01_Div.l0 k a b (q.set i lo) t210 ((i : Int) - 1)) (fun k => ?_) ⟨r, Ev.bind ex (Ev.bind ey (Ev.bind ez he)), hQ⟩
    simp only [lombardref01_Div.l1]
    rw [u64 (x := lo + 1 - lo) (by omega) (by omega), if_neg (by omega), if_pos (by omega), if_pos (by omega), Int.toNat_natCast, ew]
  | succ n ih =>
    intro lo hi0 l0 l1 l2 l3 l4 l5
    by_cases c : hi0 - lo > 1
    · have m0 : lo < (lo + hi0) / 2 := by omega
      have m1 : (lo + hi0) / 2 < hi0 := by omega
      have p : (2 : Int) ^ (n + 1) = 2 * 2 ^ n := by rw [Int.pow_succ]; omega
      rw [p] at l3
      obtain ⟨x, ex, bx, lx⟩ := of_ev (n := (lo + hi0) / 2) (by omega) (by omega)
      obtain ⟨y, ey, by_, ly⟩ := mul_ev bx hb (by omega) (by omega)
      obtain ⟨cc, ec, c1, c2⟩ := compare_ev by_ hr (by omega) (by omega)
      have run : ∀ k, lombardref01_Div.l1 (k + 1) a b q rest (i : Int) lo hi0 = (lombardref01_Of.f k ((lo + hi0) / 2)).bind fun t213 => (lombardref01_Mul.f k t213 b).bind fun t216 => (lombardref01_Compare.f k t216 rest).bind fun t219 => if t219 ≤ 0 then lombardref01_Div.l1 k a b q rest i ((lo + hi0) / 2) hi0 else lombardref01_Div.l1 k a b q rest i lo ((lo + hi0) / 2) := by
        intro k
        simp only [lombardref01_Div.l1]
        rw [u64 (x := hi0 - lo) (by omega) (by omega), if_pos c, u64 (x := lo + hi0) (by omega) (by omega), td (by omega), u64 (x := (lo + hi0) / 2) (by omega) (by omega)]
      by_cases le : cc ≤ 0
      · have g : (lo + hi0) / 2 * vb ≤ R := by omega
        obtain ⟨r, he, hQ⟩ := ih ((lo + hi0) / 2) hi0 (by omega) m1 l2 (by omega) g l5
        refine ex_step2 run ⟨r, Ev.bind ex (Ev.bind ey (Ev.bind ec ?_)), hQ⟩
        simp only [if_pos le]; exact he
      · have g : R < (lo + hi0) / 2 * vb := by omega
        obtain ⟨r, he, hQ⟩ := ih lo ((lo + hi0) / 2) l0 m0 (by omega) (by omega) l4 g
        refine ex_step2 run ⟨r, Ev.bind ex (Ev.bind ey (Ev.bind ec ?_)), hQ⟩
        simp only [if_neg le]; exact he
    · exact ih lo hi0 l0 l1 l2 (by have h : (0 : Int) < 2 ^ n := Int.pow_pos (by decide); omega) l4 l5
theorem div_alg (d V W vb R ai : Int) : ai + 65536 * (V * vb + R) = (d + 65536 * V) * vb + (ai + 65536 * R - d * vb) + 0 * W := by
  rw [Int.add_mul, Int.mul_add, Int.mul_assoc, Int.zero_mul]; omega
theorem div_go (a b : List Int) (da : Digits a) (la : a.length ≤ 800) (vb : Int) (hb : IsBig b vb) (_hp : 0 < vb) (lb : b.length ≤ 900) : ∀ (n : Nat) (q rest : List Int) (R : Int), n ≤ a.length → Digits q → q.length = a.length → IsBig rest R → R < vb → Same (val (a.drop n)) (val (q.drop n) * vb + R) →
    ∃ r : List Int × List Int, Ev (fun k => lombardref01_Div.l0 k a b q rest ((n : Int) - 1)) r ∧ (∃ x R', IsBig r.1 x ∧ IsBig r.2 R' ∧ R' < vb ∧ val a = x * vb + R' ∧ r.1.length ≤ a.length) := by
  intro n
  induction n with
  | zero =>
    intro q rest R hn dq hq hr hR hv
    obtain ⟨t, et, bt, lt⟩ := trim_ev (l := q) (by omega) dq
    refine ⟨(t, rest), ?_, val q, R, bt, hr, hR, hv, by simpa [hq] using lt⟩
    refine Ev.step (f := fun k => (lombardref01_trim.f k q).bind fun t190 => some (t190, rest)) (fun k => ?_) (Ev.bind et (Ev.now _))
    simp only [lombardref01_Div.l0]
    rw [if_neg (by omega)]
  | succ n ih =>
    intro q rest R hn dq hq hr hR hv
    have ga := da.get n
    have R0 := hr.nonneg
    have e : ((n + 1 : Nat) : Int) - 1 = (n : Int) := by omega
    have vlt := val_lt hb.1
    rw [hb.2.2] at vlt
    have rl : rest.length ≤ b.length := hr.len_le (by omega)
    obtain ⟨t, et, bt, lt⟩ := trim_ev (l := [a.getD n 0] ++ rest) (by simp; omega) ((Digits.nil.cons ga.1 ga.2).append hr.1)
    have vt : val ([a.getD n 0] ++ rest) = a.getD n 0 + 65536 * R := by simp [val, hr.2.2]
    rw [vt] at bt
    have row := div_row a b q t vb (a.getD n 0 + 65536 * R) hb bt lb (by simp at lt; omega) n (by omega) (by omega) (fun r => ∃ x R', IsBig r.1 x ∧ IsBig r.2 R' ∧ R' < vb ∧ val a = x * vb + R' ∧ r.1.length ≤ a.length)
      (fun d rest' d0 d1 hb' hlt => ih (q.set n d) rest' _ (by omega) (dq.set n d0 d1) (by simpa using hq) hb' hlt (by
        have h2 : _ = _ := hv
        show _ = _
        rw [val_drop (l := a) (i := n) (by omega), val_drop (l := q.set n d) (i := n) (by simp; omega), h2]
        have e1 : (q.set n d).getD n 0 = d := by
          rw [List.getD_eq_getElem?_getD, List.getElem?_set_self (by omega)]; rfl
        have e2 : (q.set n d).drop (n + 1) = q.drop (n + 1) := by rw [List.drop_set_of_lt (by omega)]
        rw [e1, e2]
        have h3 := div_alg d (val (q.drop (n + 1))) 0 vb R (a.getD n 0)
        rw [h3]; omega))
      16 0 65536 (by omega) (by omega) (by omega) (by decide) (by omega) (by omega)
    obtain ⟨r, he, hQ⟩ := row
    rw [e]
    refine ex_step2 (f := fun k => (lombardref01_trim.f k ([a.getD n 0] ++ rest)).bind fun t200 => lombardref01_Div.l1 k a b q t200 n 0 65536) (fun k => ?_) ⟨r, Ev.bind et he, hQ⟩
    simp only [lombardref01_Div.l0, Option.bind_some, rd_nat, List.length_singleton]
    rw [if_pos (by omega), if_pos (by omega), if_pos (by omega), if_pos (by omega)]
theorem div_ev {a b : List Int} {m n : Int} (ha : IsBig a m) (hb : IsBig b n) (hp : 0 < n) (la : a.length ≤ 800) (lb : b.length ≤ 900) :
    ∃ x y, Ev (fun k => lombardref01_Div.f k a b) (x, y) ∧ IsBig x (m / n) ∧ IsBig y (m % n) ∧ x.length ≤ a.length := by
  obtain ⟨⟨x, y⟩, he, v, R, bx, by_, hR, hv, hl⟩ := div_go a b ha.1 la n hb hp lb a.length (List.replicate a.length 0) [] 0 (Nat.le_refl _) (Digits.zeros _) (by simp) IsBig.nil hp (by
    show _ = _
    rw [val_drop_end (Nat.le_refl _), val_drop_end (by simp)]; simp)
  rw [ha.2.2] at hv
  have R0 := by_.nonneg
  have q : m / n = v := by
    rw [hv, Int.mul_comm, Int.add_comm, Int.add_mul_ediv_left _ _ (by omega), Int.ediv_eq_zero_of_lt R0 hR]; omega
  have r : m % n = R := by
    rw [hv, Int.mul_comm, Int.add_comm, Int.add_mul_emod_self_left, Int.emod_eq_of_lt R0 hR]
  refine ⟨x, y, Ev.congr (fun k => ?_) he, q ▸ bx, r ▸ by_, hl⟩
  unfold lombardref01_Div.f
  rw [if_pos (by omega), Int.toNat_natCast, if_pos (by omega), w64 (by omega) (by omega)]
theorem halves_go (l : List Int) (d : Digits l) (hl : l.length ≤ 8) : ∀ n, n ≤ l.length → ∀ hi lo : Int, (n < 4 → 0 ≤ hi) → (hi = val ((l.drop n).drop (4 - n)) ∧ lo = val (((l.take 4).drop n))) →
    Ev (fun k => lombardref01_Halves.l0 k l hi lo ((n : Int) - 1)) (val (l.drop 4), val (l.take 4), true)
  | 0, _, hi, lo, _, ⟨h1, h2⟩ => by
    have e1 : hi = val (l.drop 4) := by rw [h1]; simp
    have e2 : lo = val (l.take 4) := by rw [h2]; simp
    subst e1; subst e2
    refine Ev.step (f := fun _ => some _) (fun k => ?_) (Ev.now _)
    simp only [lombardref01_Halves.l0]
    rw [if_neg (by omega)]
  | n + 1, hn, hi, lo, hh, ⟨h1, h2⟩ => by
    have g := d.get n
    have e : ((n + 1 : Nat) : Int) - 1 = (n : Int) := by omega
    have ew : wrap64 ((n : Int) - 1) = (n : Int) - 1 := w64 (by omega) (by omega)
    rw [e]
    have bnd : ∀ x : List Int, Digits x → x.length ≤ 3 → 0 ≤ val x ∧ val x < 281474976710656 := by
      intro x dx lx
      have h := val_lt dx
      have k := P_le lx
      have : P 3 = 281474976710656 := by decide
      exact ⟨val_nonneg dx, by omega⟩
    by_cases c : 4 ≤ n
    · have hv : hi = val (l.drop (n + 1)) := by rw [h1, show 4 - (n + 1) = 0 by omega, List.drop_zero]
      have b := bnd (l.drop (n + 1)) (d.drop _) (by rw [List.length_drop]; omega)
      refine Ev.step (f := fun k => lombardref01_Halves.l0 k l (hi * 65536 + l.getD n 0) lo ((n : Int) - 1)) (fun k => ?_) (halves_go l d hl n (by omega) _ lo (by omega) ⟨?_, ?_⟩)
      · simp only [lombardref01_Halves.l0, rd_nat, ew]
        rw [if_pos (by omega), if_pos (by omega), if_pos (by omega), if_pos (by omega), u64 (x := hi * 65536) (by omega) (by omega), u64 (by omega) (by omega)]
      · rw [show 4 - n = 0 by omega, List.drop_zero, val_drop (by omega), hv]; omega
      · rw [h2, List.drop_of_length_le (by rw [List.length_take]; omega), List.drop_of_length_le (by rw [List.length_take]; omega)]
    · have ht : n < (l.take 4).length := by rw [List.length_take]; omega
      have gt : (l.take 4).getD n 0 = l.getD n 0 := by
        rw [List.getD_eq_getElem?_getD, List.getD_eq_getElem?_getD, List.getElem?_take_of_lt (by omega)]
      have b := bnd ((l.take 4).drop (n + 1)) ((d.take 4).drop _) (by rw [List.length_drop, List.length_take]; omega)
      refine Ev.step (f := fun k => lombardref01_Halves.l0 k l hi (lo * 65536 + l.getD n 0) ((n : Int) - 1)) (fun k => ?_) (halves_go l d hl n (by omega) hi _ ?_ ⟨?_, ?_⟩)
      · simp only [lombardref01_Halves.l0, rd_nat, ew]
        rw [if_pos (by omega), if_neg (by omega), if_pos (by omega), if_pos (by omega), u64 (x := lo * 65536) (by omega) (by omega), u64 (by omega) (by omega)]
      · intro _; rw [h1]; exact val_nonneg ((d.drop _).drop _)
      · rw [h1, List.drop_drop, List.drop_drop, show n + 1 + (4 - (n + 1)) = n + (4 - n) by omega]
      · rw [val_drop ht, gt, h2]; omega
theorem halves_ev {l : List Int} {n : Int} (h : IsBig l n) (hl : l.length ≤ 8) : Ev (fun k => lombardref01_Halves.f k l) (n / 18446744073709551616, n % 18446744073709551616, true) := by
  have g := halves_go l h.1 hl l.length (Nat.le_refl _) 0 0 (by omega) (by
    constructor
    · rw [List.drop_of_length_le (Nat.le_refl _), List.drop_nil]; rfl
    · rw [List.drop_of_length_le (by rw [List.length_take]; omega)]; rfl)
  have lo0 := val_nonneg (h.1.take 4)
  have lo1 := val_lt (h.1.take 4)
  have p := P_le (show (l.take 4).length ≤ 4 by rw [List.length_take]; omega)
  have p4 : P 4 = 18446744073709551616 := by decide
  have s : n = val (l.take 4) + 18446744073709551616 * val (l.drop 4) := by
    by_cases c : 4 ≤ l.length
    · have := val_split l c
      rw [h.2.2, p4] at this; exact this
    · rw [List.take_of_length_le (by omega), val_drop_end (by omega), h.2.2]; omega
  have e1 : n / 18446744073709551616 = val (l.drop 4) := by omega
  have e2 : n % 18446744073709551616 = val (l.take 4) := by omega
  rw [e1, e2]
  refine Ev.congr (fun k => ?_) g
  unfold lombardref01_Halves.f
  rw [if_neg (by omega), w64 (by omega) (by omega)]
theorem size_ev {n : Int} (h0 : -9223372036854775808 ≤ n) (h1 : n ≤ 9223372036854775807) : ∃ r, Ev (fun k => lombardref01_size.f k n) r ∧ IsBig r (n.natAbs : Int) ∧ r.length ≤ 4 := by
  unfold lombardref01_size.f
  by_cases c : n = -9223372036854775808
  · subst c
    obtain ⟨r, he, hb, hl⟩ := of_ev (n := 9223372036854775808) (by omega) (by omega)
    refine ⟨r, ?_, hb, hl⟩
    simp only [if_true]
    exact Ev.bind he (Ev.now _)
  · by_cases d : n < 0
    · obtain ⟨r, he, hb, hl⟩ := of_ev (n := -n) (by omega) (by omega)
      refine ⟨r, ?_, by rw [show ((n.natAbs : Nat) : Int) = -n by omega]; exact hb, hl⟩
      simp only [if_neg c, if_pos d]
      rw [w64 (by omega) (by omega), u64 (by omega) (by omega)]
      exact Ev.bind he (Ev.now _)
    · obtain ⟨r, he, hb, hl⟩ := of_ev (n := n) (by omega) (by omega)
      refine ⟨r, ?_, by rw [show ((n.natAbs : Nat) : Int) = n by omega]; exact hb, hl⟩
      simp only [if_neg c, if_neg d]
      rw [u64 (by omega) (by omega)]
      exact Ev.bind he (Ev.now _)
end Go.Proofs.Ytlbhjkbjokiioaa.PBig
