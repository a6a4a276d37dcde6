/- SubstMoves: the law's printed function answers true at all lists. No condition. -/
import Derived.Test.YtjhbacbaeakdpaaPLotG
import Derived.Test.YtjhbacbaeakdpaaOpenSubstMoves
namespace Go.Proofs.Ytjhbacbaeakdpaa.Pure
open Go Go.RowKit Go.Proofs.Ytjhbacbaeakdpaa.X Go.Proofs.YtjhbacbaeakdpaaW.PrintWords Go.Proofs.YtjhbacbaeakdpaaW.PrintLast Go.Proofs.YtjhbacbaeakdpaaW.PrintMore Go.Proofs.Ytjhbacbaeakdpaa.PLot

theorem betweenP {was now : List Lot} (sw : Sorted was) (pw : Pos was) (lw : was.length ≤ 64) (sn : Sorted now) (pn : Pos now) (ln : now.length ≤ 64) :
    Ev (fun k => subst_between.f k was now) (moreS now was, moreS was now) := by
  obtain ⟨m1, m2, _, _⟩ := moves sw pw sn pn ln
  have lB : (bothS was now).length ≤ 100 := by
    have := len_le (a := bothS was now) (b := was) (mapQ_sorted sw) sw (fun x hx => by obtain ⟨z, hz, e, _⟩ := mapQ_mem x hx; exact ⟨z, hz, e.symm⟩)
    omega
  have a := lminus_ev (a := now) (b := bothS was now) (by omega) lB sn pn (both_pos pw)
  have b := lminus_ev (a := was) (b := bothS was now) (by omega) lB sw pw (both_pos pw)
  rw [m1] at a
  rw [m2] at b
  unfold subst_between.f
  exact Ev.bind (both_ev (by omega) (by omega) sn) (Ev.bind a (Ev.bind b (Ev.now _)))

theorem between_ev (was now : List Lot) : ∃ r : List Lot × List Lot × Int, Ev (fun k => subst_Between.f k was now) r ∧ Ev (fun k => lombardref19_Between.f k was now) r ∧ r.1.length ≤ 64 ∧ r.2.1.length ≤ 64 ∧
    (r.2.2 = 0 → Sorted was ∧ Pos was ∧ was.length ≤ 64 ∧ Sorted now ∧ Pos now ∧ now.length ≤ 64 ∧ r = (moreS now was, moreS was now, 0)) := by
  obtain ⟨r, a, b, c⟩ := check_ev was
  obtain ⟨s, a', b', c'⟩ := check_ev now
  unfold subst_Between.f lombardref19_Between.f
  by_cases e : r.2 = 0
  · by_cases e' : s.2 = 0
    · obtain ⟨sw, pw, lw⟩ := c e
      obtain ⟨sn, pn, ln⟩ := c' e'
      have l1 := len_le (a := moreS now was) (b := now) (mapQ_sorted sn) sn (fun x hx => by obtain ⟨z, hz, e, _⟩ := mapQ_mem x hx; exact ⟨z, hz, e.symm⟩)
      have l2 := len_le (a := moreS was now) (b := was) (mapQ_sorted sw) sw (fun x hx => by obtain ⟨z, hz, e, _⟩ := mapQ_mem x hx; exact ⟨z, hz, e.symm⟩)
      refine ⟨(moreS now was, moreS was now, 0), Ev.bind a ?_, Ev.bind b ?_, by simp only; omega, by simp only; omega, fun _ => ⟨sw, pw, lw, sn, pn, ln, rfl⟩⟩
      · simp only [if_pos e]; refine Ev.bind a' ?_; simp only [if_pos e']; exact Ev.bind (betweenP sw pw lw sn pn ln) (Ev.now _)
      · simp only [if_pos e]; refine Ev.bind b' ?_; simp only [if_pos e']; exact Ev.bind (more_ev (by omega) (by omega) pn pw) (Ev.bind (more_ev (by omega) (by omega) pw pn) (Ev.now _))
    · refine ⟨([], [], s.2), Ev.bind a ?_, Ev.bind b ?_, by simp, by simp, fun z => absurd z e'⟩
      · simp only [if_pos e]; refine Ev.bind a' ?_; simp only [if_neg e']; exact Ev.now _
      · simp only [if_pos e]; refine Ev.bind b' ?_; simp only [if_neg e']; exact Ev.now _
  · refine ⟨([], [], r.2), Ev.bind a ?_, Ev.bind b ?_, by simp, by simp, fun z => absurd z e⟩
    · simp only [if_neg e]; exact Ev.now _
    · simp only [if_neg e]; exact Ev.now _

def lot (c : UInt8) (n : Int) : Lot := ⟨⟨#[c]⟩, n⟩
theorem key_lot (c : UInt8) (n : Int) : key (lot c n) = [c] := by show (⟨#[c]⟩ : ByteArray).toList = [c]; rw [ByteArray.toList_eq]
theorem awake_ev : Ev (fun k => lombardlaw19_awake.f k) true := by
  have sw : Sorted [lot 65 5, lot 66 2] := by simp [Sorted, key_lot, L, Op.bytesLess]
  have sn : Sorted [lot 65 3, lot 67 4] := by simp [Sorted, key_lot, L, Op.bytesLess]
  have pw : Pos [lot 65 5, lot 66 2] := by simp [Pos, lot, M]
  have pn : Pos [lot 65 3, lot 67 4] := by simp [Pos, lot, M]
  have m1 : moreS [lot 65 3, lot 67 4] [lot 65 5, lot 66 2] = [lot 67 4] := by simp [moreS, mapQ, qty, key_lot]; simp [lot]
  have m2 : moreS [lot 65 5, lot 66 2] [lot 65 3, lot 67 4] = [lot 65 2, lot 66 2] := by simp [moreS, mapQ, qty, key_lot]; simp [lot]
  have c1 : Ev (fun k => lots_Check.f k [lot 65 5, lot 66 2]) (2, 0) := ⟨9, fun k hk => by
    obtain ⟨m, rfl⟩ : ∃ m, k = m + 9 := ⟨k - 9, by omega⟩
    simp [lots_Check.f, lots_Check.l0, lots_Check.j1, rd_T35, lot, wrap64, ByteArray.toList_eq, Op.bytesLess]⟩
  have c2 : Ev (fun k => lots_Check.f k [lot 65 3, lot 67 4]) (2, 0) := ⟨9, fun k hk => by
    obtain ⟨m, rfl⟩ : ∃ m, k = m + 9 := ⟨k - 9, by omega⟩
    simp [lots_Check.f, lots_Check.l0, lots_Check.j1, rd_T35, lot, wrap64, ByteArray.toList_eq, Op.bytesLess]⟩
  have bt := betweenP sw pw (by simp) sn pn (by simp)
  rw [m1, m2] at bt
  have bB : Ev (fun k => subst_Between.f k [lot 65 5, lot 66 2] [lot 65 3, lot 67 4]) ([lot 67 4], [lot 65 2, lot 66 2], 0) := by
    unfold subst_Between.f
    refine Ev.bind c1 ?_
    simp only [if_true]
    refine Ev.bind c2 ?_
    simp only [if_true]
    exact Ev.bind bt (Ev.now _)
  unfold lombardlaw19_awake.f
  refine Ev.bind bB ?_
  simp only [if_true]
  refine Ev.bind (same_ev (a := [lot 67 4]) (by simp)) ?_
  simp only [if_true]
  exact Ev.bind (same_ev (a := [lot 65 2, lot 66 2]) (by simp)) (Ev.now _)

theorem SubstMoves : Go.Proofs.Ytjhbacbaeakdpaa.X.SubstMoves.Pure := by
  intro was now _ _
  apply Ev.rounds
  have aw : Ev (fun k => lombardlaw19_SubstMoves.j0 k was now true) true :=
    Ev.step (f := fun k => (lombardlaw19_awake.f k).bind fun t => some t) (fun k => by simp only [lombardlaw19_SubstMoves.j0]; rw [if_pos trivial]) (Ev.bind awake_ev (Ev.now _))
  unfold lombardlaw19_SubstMoves.f
  by_cases c1 : (was.length : Int) > 80
  · simp only [if_pos c1]; exact aw
  simp only [if_neg c1]
  by_cases c2 : (now.length : Int) > 80
  · rw [decide_eq_true c2]; exact aw
  rw [decide_eq_false c2]
  obtain ⟨r, a, b, l1, l2, c⟩ := between_ev was now
  refine Ev.step (f := fun k => lombardlaw19_SubstMoves.j0 (k + 1) was now false) (fun k => rfl) ?_
  simp only [lombardlaw19_SubstMoves.j0, Bool.false_eq_true, if_false]
  refine Ev.bind a (Ev.bind b (Ev.bind (same_ev (by omega)) ?_))
  simp only [if_true]
  refine Ev.bind (same_ev (by omega)) ?_
  simp only [if_true, bne_self_eq_false]
  refine Ev.step (f := fun k => lombardlaw19_SubstMoves.j1 (k + 1) was now r.2.2 false r.1 r.2.1) (fun k => rfl) ?_
  simp only [lombardlaw19_SubstMoves.j1, Bool.false_eq_true, if_false]
  by_cases e : r.2.2 = 0
  · obtain ⟨sw, pw, lw, sn, pn, ln, er⟩ := c e
    subst er
    obtain ⟨_, _, m3, m4⟩ := moves sw pw sn pn ln
    simp only [if_true]
    have x := rminus_ev (a := was) (b := moreS was now) (by omega) l2 sw pw (more_pos pw pn)
    have sW : Sorted (moreS was now) := mapQ_sorted sw
    simp only at l1 l2
    have ok := minus_ok sw pw sW (more_pos pw pn) (fun k => by rw [more_qty sw pn]; have := qty_nonneg pw k; have := qty_nonneg pn k; omega)
    refine Ev.bind x ?_
    have ll := len_le ok.2.1 sw (fun y hy => by
      have y1 := qty_mem ok.2.1 hy
      have y2 := ok.2.2.1 y hy
      have y3 := ok.2.2.2 (key y)
      have y4 := qty_nonneg (more_pos pw pn : Pos (moreS was now)) (key y)
      exact qty_find (by omega))
    have y := rplus_ev (a := (minusS was (moreS was now)).1) (b := moreS now was) (by omega) l1 ok.2.1 ok.2.2.1 (more_pos pn pw)
    rw [m4] at y
    refine Ev.bind y ?_
    simp only [m3, if_true]
    refine Ev.bind (same_ev (by omega)) ?_
    simp only [if_true]
    exact Ev.bind awake_ev (Ev.now _)
  · simp only [if_neg e]; exact Ev.bind awake_ev (Ev.now _)
end Go.Proofs.Ytjhbacbaeakdpaa.Pure
