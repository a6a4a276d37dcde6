/- CloseAuctions: the law's printed function answers true at all lots and bids. No condition. -/
import Derived.Test.YtlbhjkbjokiioaaPAuctF
import Derived.Test.YtlbhjkbjokiioaaOpenCloseAuctions
import Derived.Test.YtlbhjkbjokiioaaX18
import Derived.Test.YtlbhjkbjokiioaaX5
namespace Go.Proofs.Ytlbhjkbjokiioaa.Pure
open Go Go.RowKit Go.Proofs.Ytlbhjkbjokiioaa.X Go.Proofs.YtlbhjkbjokiioaaW.PrintWords Go.Proofs.YtlbhjkbjokiioaaW.PrintLast Go.Proofs.YtlbhjkbjokiioaaW.PrintMore Go.Proofs.Ytlbhjkbjokiioaa.PAuct
set_option linter.unusedVariables false
theorem awake_ev : Ev (fun k => lombardlaw29_awake.f k) true := by
  have h : lombardlaw29_awake.f 200 = some true := by decide +kernel
  refine ⟨200, fun k hk => ?_⟩
  obtain ⟨d, rfl⟩ := Nat.exists_eq_add_of_le hk
  induction d with
  | zero => exact h
  | succ d ih => exact lombardlaw29_awake.mono _ _ (ih (Nat.le_add_right ..))
theorem lots_same (a : List PAuct.Lot) (ha : a.length ≤ 1000) : ∀ (n i : Nat), i + n = a.length → Ev (fun k => lombardref10_Lots.l0 k a a (i : Int)) true
  | 0, i, hi => by
    refine Ev.step (f := fun _ => some true) (fun k => ?_) (Ev.now _)
    simp only [lombardref10_Lots.l0]
    rw [if_neg (by omega)]
  | n + 1, i, hi => by
    have h : i < a.length := by omega
    refine Ev.step (fun k => ?_) (lots_same a ha n (i + 1) (by omega))
    simp only [lombardref10_Lots.l0]
    rw [if_pos (by omega), if_pos (by omega), if_pos (by omega), if_neg (by simp), PSort.wsucc (by omega)]
theorem sold_same (a : List Sold) (ha : a.length ≤ 30000) (T : Int) (R : List PAuct.Lot) (c : Int) : ∀ (n i : Nat), i + n = a.length → Ev (fun k => lombardlaw29_CloseAuctions.l0 k a (i : Int) (a.map toR) T R c) true
  | 0, i, hi => by
    refine Ev.step (f := fun k => (lombardlaw29_awake.f k).bind fun t => some t) (fun k => ?_) (Ev.bind awake_ev (Ev.now _))
    simp only [lombardlaw29_CloseAuctions.l0]
    rw [if_neg (by omega)]
  | n + 1, i, hi => by
    have h : i < a.length := by omega
    have h' : i < (a.map toR).length := by simpa using h
    refine Ev.step (fun k => ?_) (sold_same a ha T R c n (i + 1) (by omega))
    simp only [lombardlaw29_CloseAuctions.l0]
    rw [if_pos (by omega), if_pos (by omega), if_pos (by omega), PAuct.rdS h, PAuct.rdR h', List.getElem_map, if_pos (show a[i].f0 = (toR a[i]).f0 from rfl), if_pos (show a[i].f1.toList = (toR a[i]).f1.toList from rfl), if_pos (show a[i].f2 = (toR a[i]).f2 from rfl), if_pos (show a[i].f3 = (toR a[i]).f3 from rfl), PSort.wsucc (by omega)]
theorem CloseAuctions : CloseAuctions.Pure := by
  intro l0 l1 _ _
  apply Ev.rounds
  unfold lombardlaw29_CloseAuctions.f
  have tt : Ev (fun k => lombardlaw29_CloseAuctions.j0 k l0 l1 true) true := Ev.step (f := fun k => (lombardlaw29_awake.f k).bind fun t => some t) (fun k => by simp only [lombardlaw29_CloseAuctions.j0]; rw [if_pos trivial]) (Ev.bind awake_ev (Ev.now _))
  by_cases c : (l0.length : Int) > 80
  · simp only [if_pos c]; exact tt
  simp only [if_neg c]
  by_cases d : (l1.length : Int) > 300
  · rw [decide_eq_true d]; exact tt
  rw [decide_eq_false d]
  obtain ⟨r, h1, h2, h3, h4⟩ := auction_ev l0 l1 (by omega)
  refine Ev.step (f := fun k => (lombardlaw29_bids.f k l1).bind fun t => (close_Auction.f k l0 t).bind fun b => (lombardref29_Auction.f k l0 l1).bind fun q => if (b.1.length : Int) = (q.1.length : Int) then (if b.2.1 = q.2.1 then ((lombardref10_Lots.f k b.2.2.1 q.2.2.1).bind fun t => (if t = true then (lombardlaw29_CloseAuctions.j1 k b.1 (b.2.2.2 != q.2.2.2) q.1 q.2.1 q.2.2.1 q.2.2.2) else (lombardlaw29_CloseAuctions.j1 k b.1 true q.1 q.2.1 q.2.2.1 q.2.2.2))) else (lombardlaw29_CloseAuctions.j1 k b.1 true q.1 q.2.1 q.2.2.1 q.2.2.2)) else (lombardlaw29_CloseAuctions.j1 k b.1 true q.1 q.2.1 q.2.2.1 q.2.2.2)) (fun k => ?_) (Ev.bind (bids_ev l1 (by omega)) (Ev.bind h1 (Ev.bind h2 ?_)))
  · simp only [lombardlaw29_CloseAuctions.j0]
    rw [if_neg (by simp)]
  unfold up4
  simp only [List.length_map, if_true, bne_self_eq_false]
  refine Ev.bind (a := true) ?_ ?_
  · unfold lombardref10_Lots.f
    simp only [if_true]
    exact lots_same _ (by omega) _ 0 (Nat.zero_add _)
  · simp only [if_true]
    refine Ev.step (f := fun k => lombardlaw29_CloseAuctions.l0 k r.1 0 (r.1.map toR) r.2.1 r.2.2.1 r.2.2.2) (fun k => by simp only [lombardlaw29_CloseAuctions.j1]; rw [if_neg (by simp)]) ?_
    exact sold_same r.1 h3 _ _ _ _ 0 (Nat.zero_add _)
end Go.Proofs.Ytlbhjkbjokiioaa.Pure
