/- LotsRanks: the law's printed function answers true at all lists of items. No condition. -/
import Derived.Test.YtjjemfbpodgihaaPRank
import Derived.Test.YtjjemfbpodgihaaOpenLotsRanks
import Derived.Test.YtjjemfbpodgihaaX19
import Derived.Test.YtjjemfbpodgihaaPLotI
namespace Go.Proofs.Ytjjemfbpodgihaa.Pure
open Go Go.RowKit Go.Proofs.Ytjjemfbpodgihaa.X Go.Proofs.YtjjemfbpodgihaaW.PrintWords Go.Proofs.YtjjemfbpodgihaaW.PrintLast Go.Proofs.YtjjemfbpodgihaaW.PrintMore Go.Proofs.Ytjjemfbpodgihaa.PLot Go.Proofs.Ytjjemfbpodgihaa.PSort Go.Stable
theorem ranks_end (l : List It) (hl : l.length ≤ 100) (m : List Lot × Int) (hm : m.1.length ≤ 64) : Ev (fun k => lombardlaw17_LotsRanks.j0 k l (isort leR l) m.1 m.2 m.1 m.2 false) true := by
  refine Ev.step (fun k => by simp only [lombardlaw17_LotsRanks.j0, Bool.false_eq_true, if_false]; rfl) ?_
  refine Ev.bind (items_ev l (by omega)) (Ev.bind (rank_ev _ (by simp; omega)) ?_)
  rw [← isort_map]
  refine Ev.bind (same_ev' _ (by rw [isortR_len]; omega)) ?_
  simp only [if_true]
  refine Ev.bind (same_ev (by omega)) ?_
  simp only [if_true]
  exact Ev.bind awake_ev (Ev.now _)
theorem LotsRanks : Go.Proofs.Ytjjemfbpodgihaa.X.LotsRanks.Pure := by
  intro l _
  apply Ev.rounds
  unfold lombardlaw17_LotsRanks.f
  by_cases c : (l.length : Int) > 100
  · simp only [if_pos c]
    exact Ev.bind awake_ev (Ev.now _)
  simp only [if_neg c]
  have hl : l.length ≤ 100 := by omega
  have ml : (mergeS [] (l.map (·.f0))).1.length ≤ 64 := merge_len _ [] (by simp) List.Pairwise.nil (fun _ h => by cases h)
  by_cases e : l = []
  · subst e
    have w : ∀ k, lots_Worst.f k [] = some ((⟨#[]⟩ : ByteArray), 0, (⟨#[]⟩ : ByteArray), 0, 0, 0, (⟨#[]⟩ : ByteArray), 0, 0, false) := fun k => by unfold lots_Worst.f; rw [if_pos (by simp)]
    refine Ev.bind (rrank_ev [] (by simp)) (Ev.bind (items_ev [] (by simp)) ?_)
    refine Ev.bind (a := ((⟨#[]⟩ : ByteArray), 0, (⟨#[]⟩ : ByteArray), 0, 0, 0, (⟨#[]⟩ : ByteArray), 0, 0, false)) ⟨0, fun k _ => w k⟩ (Ev.bind (items_ev [] (by simp)) (Ev.bind (of_ev [] (by simp)) (Ev.bind (rof_ev [] (by simp)) ?_)))
    simp
    exact ranks_end [] (by simp) _ ml
  · have p : 0 < l.length := List.length_pos_iff.2 e
    have lr : (isort leR l).length = l.length := isortR_len l
    have le : (isort leE (l.map toE)).length = l.length := by rw [isort_len]; simp
    obtain ⟨R0, r, hr⟩ : ∃ R0 r, isort leR l = R0 ++ [r] := ⟨(isort leR l).dropLast, (isort leR l).getLast (by intro h; rw [h] at lr; simp at lr; omega), (List.dropLast_concat_getLast _).symm⟩
    have hR0 : R0.length + 1 = l.length := by rw [← lr, hr]; simp
    have w : Ev (fun k => lots_Worst.f k (l.map toE)) (r.f0.f0, r.f0.f1, r.f1.f0, r.f1.f1, r.f1.f2, r.f1.f3, r.f1.f4, r.f2, r.f3, true) := by
      unfold lots_Worst.f
      simp only [if_neg (show ¬ ((l.map toE).length : Int) = 0 by simp; exact e)]
      refine Ev.bind (rank_ev _ (by simp; omega)) ?_
      have wl : wrap64 (((isort leE (l.map toE)).length : Int) - 1) = ((R0.length : Nat) : Int) := by rw [le, wpred (by omega) p]; congr 1; omega
      have hE : isort leE (l.map toE) = R0.map toE ++ [toE r] := by rw [← isort_map, hr]; simp
      have rd_ : rd_T47 (isort leE (l.map toE)) ((R0.length : Nat) : Int) = toE r := by
        rw [rdE (by rw [le]; omega)]
        simp only [hE]
        rw [List.getElem_append_right (by simp)]
        simp
      simp only [wl, if_pos (show (0 : Int) ≤ ((R0.length : Nat) : Int) by omega), if_pos (show ((R0.length : Nat) : Int) < ((isort leE (l.map toE)).length : Int) by rw [le]; omega), rd_]
      exact Ev.now _
    refine Ev.bind (rrank_ev l (by omega)) (Ev.bind (items_ev l (by omega)) (Ev.bind w (Ev.bind (items_ev l (by omega)) (Ev.bind (of_ev l (by omega)) (Ev.bind (rof_ev l (by omega)) ?_)))))
    simp only [decide_eq_true (show (l.length : Int) > 0 by omega), bne_self_eq_false, Bool.false_eq_true, if_false, if_true]
    have wl : wrap64 (((isort leR l).length : Int) - 1) = ((R0.length : Nat) : Int) := by rw [lr, wpred (by omega) p]; congr 1; omega
    simp only [wl, if_pos (show (0 : Int) ≤ ((R0.length : Nat) : Int) by omega), if_pos (show ((R0.length : Nat) : Int) ≤ ((isort leR l).length : Int) by rw [lr]; omega), Int.toNat_natCast]
    have d : (isort leR l).drop R0.length = [r] := by rw [hr]; simp
    simp only [d]
    refine Ev.bind (a := true) (same_ev' [r] (by simp)) ?_
    simp only [if_true]
    exact ranks_end l hl _ ml
end Go.Proofs.Ytjjemfbpodgihaa.Pure
