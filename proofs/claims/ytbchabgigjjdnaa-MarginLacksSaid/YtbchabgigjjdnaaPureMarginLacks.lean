/- MarginLacks: the law's printed function answers true at all marks and numbers. No condition. -/
import Derived.Test.YtbchabgigjjdnaaPLack
import Derived.Test.YtbchabgigjjdnaaOpenMarginLacks
namespace Go.Proofs.Ytbchabgigjjdnaa.Pure
open Go Go.RowKit Go.Proofs.Ytbchabgigjjdnaa.X Go.Proofs.YtbchabgigjjdnaaW.PrintWords Go.Proofs.YtbchabgigjjdnaaW.PrintLast Go.Proofs.YtbchabgigjjdnaaW.PrintMore Go.Proofs.Ytbchabgigjjdnaa.PMargin Go.Proofs.Ytbchabgigjjdnaa.PLack

theorem awake_ev : Ev (fun k => lombardlaw28_awake.f k) true := ⟨2, fun k hk => by obtain ⟨m, rfl⟩ : ∃ m, k = m + 2 := ⟨k - 2, by omega⟩; exact awake_true m⟩

theorem same_go (z : List (Int × Int)) (hz : z.length ≤ 1000) : ∀ (n i : Nat), i + n = z.length → Ev (fun k => lombardlaw28_MarginLacks.l0 k (z.map legOf) (z.map cdOf) (i : Int)) true
  | 0, i, hi => by
    refine Ev.step (f := fun k => (lombardlaw28_awake.f k).bind fun t => some t) (fun k => ?_) (Ev.bind awake_ev (Ev.now _))
    simp only [lombardlaw28_MarginLacks.l0]
    rw [if_neg (by simp; omega)]
  | n + 1, i, hi => by
    have h : i < z.length := by omega
    have e1 : rd_T44 (z.map legOf) (i : Int) = legOf z[i] := by
      unfold rd_T44; rw [Int.toNat_natCast, List.getD_eq_getElem?_getD, List.getElem?_eq_getElem (by simpa using h), List.getElem_map]; rfl
    have e2 : rd_T46 (z.map cdOf) (i : Int) = cdOf z[i] := by
      unfold rd_T46; rw [Int.toNat_natCast, List.getD_eq_getElem?_getD, List.getElem?_eq_getElem (by simpa using h), List.getElem_map]; rfl
    refine Ev.step (fun k => ?_) (same_go z hz n (i + 1) (by omega))
    simp only [lombardlaw28_MarginLacks.l0, e1, e2, legOf, cdOf]
    rw [if_pos (by simp; omega), if_pos (by omega), if_pos (by simp; omega), if_pos trivial, if_pos trivial, if_pos trivial, if_pos trivial, if_pos (by simp), up h hz]

theorem MarginLacks : Go.Proofs.Ytbchabgigjjdnaa.X.MarginLacks.Pure := by
  intro l least step has m hl0 w1 w2 hh0 w4
  have awk : Ev (fun k => lombardlaw28_MarginLacks.j0 k l least step has m true) true :=
    Ev.step (f := fun k => (lombardlaw28_awake.f k).bind fun t => some t) (fun k => by simp only [lombardlaw28_MarginLacks.j0]; rw [if_pos trivial]) (Ev.bind awake_ev (Ev.now _))
  apply Ev.rounds
  unfold lombardlaw28_MarginLacks.f
  by_cases c1 : (l.length : Int) > 80
  · simp only [if_pos c1]; exact awk
  simp only [if_neg c1]
  by_cases c2 : (has.length : Int) > 60
  · rw [decide_eq_true c2]; exact awk
  rw [decide_eq_false c2]
  have hl : l.length ≤ 80 := by omega
  have hh : has.length ≤ 60 := by omega
  have hb : ∀ x ∈ l, In x.f4 := fun x hx => by
    have := hl0.2 x hx
    unfold X.MarginLacks.b53 at this
    exact wf64 this.2.2.2.2.1
  obtain ⟨z, e, p, r, zl⟩ := calls_ev least step hl hb hh
  have mk := marks_ev hl
  have lk := lack_ev hl hb m
  have rl := rlack_ev hl hb m
  refine Ev.step (f := fun k => (lombardlaw28_marks.f k l).bind fun t264 => (margin_Lack.f k t264 m).bind fun bt267 => (lombardref28_Lack.f k l m).bind fun bt269 => (lombardlaw28_marks.f k l).bind fun t271 => (margin_Calls.f k t271 least step has).bind fun bt274 => (lombardref28_Calls.f k l least step has).bind fun bt278 => if bt267.1 = bt269.1 then (if bt267.2 = bt269.2 then (if bt274.2 = bt278.2 then lombardlaw28_MarginLacks.j1 k bt274.1 bt278.1 ((bt274.1.length : Int) != (bt278.1.length : Int)) else lombardlaw28_MarginLacks.j1 k bt274.1 bt278.1 true) else lombardlaw28_MarginLacks.j1 k bt274.1 bt278.1 true) else lombardlaw28_MarginLacks.j1 k bt274.1 bt278.1 true)
    (fun k => by simp only [lombardlaw28_MarginLacks.j0]; rw [if_neg (by simp)]) (Ev.bind mk (Ev.bind lk (Ev.bind rl (Ev.bind mk (Ev.bind p (Ev.bind r ?_))))))
  simp only [if_true, List.length_map]
  refine Ev.step (f := fun k => lombardlaw28_MarginLacks.l0 k (z.map legOf) (z.map cdOf) 0) (fun k => ?_) (same_go z zl z.length 0 (by omega))
  simp only [lombardlaw28_MarginLacks.j1]
  rw [if_neg (by simp)]
end Go.Proofs.Ytbchabgigjjdnaa.Pure
