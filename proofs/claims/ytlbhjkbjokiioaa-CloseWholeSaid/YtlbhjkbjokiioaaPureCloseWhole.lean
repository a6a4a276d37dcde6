/- CloseWhole: the law's printed function answers true at every loss and all layers. No condition. -/
import Derived.Test.YtlbhjkbjokiioaaPFallB
import Derived.Test.YtlbhjkbjokiioaaOpenCloseWhole
namespace Go.Proofs.Ytlbhjkbjokiioaa.Pure
open Go Go.RowKit Go.Proofs.Ytlbhjkbjokiioaa.X Go.Proofs.YtlbhjkbjokiioaaW.PrintWords Go.Proofs.YtlbhjkbjokiioaaW.PrintLast Go.Proofs.YtlbhjkbjokiioaaW.PrintMore Go.Proofs.Ytlbhjkbjokiioaa.PShare Go.Proofs.Ytlbhjkbjokiioaa.PFall

theorem rdU2 {us : List Us} {i : Nat} (h : i < us.length) : rd_T34 us (i : Int) = us[i] := by
  unfold rd_T34; rw [Int.toNat_natCast, List.getD_eq_getElem?_getD, List.getElem?_eq_getElem h]; rfl
theorem sub_drop : ∀ {u p : List Int} (j : Nat), Sub u p → Sub (u.drop j) (p.drop j)
  | u, p, 0, h => by simpa using h
  | [], [], _ + 1, _ => trivial
  | _ :: u, _ :: p, j + 1, h => sub_drop j h.2.2
  | [], _ :: _, _ + 1, h => h.elim
  | _ :: _, [], _ + 1, h => h.elim
theorem whole_l1 (x0 : Int) (l : List Rl) (us : List Us) (n : Int) (i : Nat) (hi : i < l.length) (hu : i < us.length) (hl : l.length ≤ 64) (wf : Bool) (hlen : l[i].f1.length ≤ 64) (hw : W l[i].f1) (hs : Sub us[i].f1 l[i].f1) : ∀ (m j : Nat) (sum all : Int), j + m = l[i].f1.length →
    0 ≤ sum → sum + sm (us[i].f1.drop j) ≤ 1000000000000000000 → 0 ≤ all → all + sm (l[i].f1.drop j) ≤ 1000000000000000000 → (wf = false → sm (us[i].f1.drop j) = 0) →
    Ev (fun k => lombardlaw29_CloseWhole.l0 k x0 l us n (sum + sm (us[i].f1.drop j)) (wf && (all + sm (l[i].f1.drop j) - sm (us[i].f1.drop j) == 0)) ((i + 1 : Nat) : Int)) true →
    Ev (fun k => lombardlaw29_CloseWhole.l1 k x0 l us n sum wf (i : Int) all (j : Int)) true
  | 0, j, sum, all, hj, h0, h1, h2, h3, h4, hc => by
    have hul := hs.len
    rw [List.drop_of_length_le (by omega), List.drop_of_length_le (by omega)] at hc
    simp only [sm, Int.add_zero, Int.sub_zero] at hc
    refine Ev.step (fun k => ?_) hc
    simp only [lombardlaw29_CloseWhole.l1, rdR hi, up hi (by omega)]
    rw [if_pos (by omega), if_pos (by omega), if_neg (by omega)]
    cases wf <;> simp
  | m + 1, j, sum, all, hj, h0, h1, h2, h3, h4, hc => by
    have hul := hs.len
    have hp : j < l[i].f1.length := by omega
    have hq : j < us[i].f1.length := by omega
    have hd := sub_drop j hs
    rw [List.drop_eq_getElem_cons hp, List.drop_eq_getElem_cons hq] at hd
    obtain ⟨d0, d1, d2⟩ := hd
    have d3 := d2.sm_le
    rw [List.drop_eq_getElem_cons hp, List.drop_eq_getElem_cons hq] at hc
    rw [List.drop_eq_getElem_cons hq] at h1 h4
    rw [List.drop_eq_getElem_cons hp] at h3
    simp only [sm] at hc h1 h3 h4
    have e1 : wrap64 (sum + us[i].f1[j]) = sum + us[i].f1[j] := w_id (by omega) (by omega)
    have e2 : wrap64 (all + l[i].f1[j]) = all + l[i].f1[j] := w_id (by omega) (by omega)
    have e3 : wrap64 (all + l[i].f1[j] - us[i].f1[j]) = all + l[i].f1[j] - us[i].f1[j] := w_id (by omega) (by omega)
    have ih := whole_l1 x0 l us n i hi hu hl wf hlen hw hs m (j + 1) (sum + us[i].f1[j]) (all + l[i].f1[j] - us[i].f1[j]) (by omega) (by omega) (by omega) (by omega) (by omega) (fun z => by have := h4 z; omega) (by
      rw [show sum + us[i].f1[j] + sm (us[i].f1.drop (j + 1)) = sum + (us[i].f1[j] + sm (us[i].f1.drop (j + 1))) by omega, show all + l[i].f1[j] - us[i].f1[j] + sm (l[i].f1.drop (j + 1)) - sm (us[i].f1.drop (j + 1)) = all + (l[i].f1[j] + sm (l[i].f1.drop (j + 1))) - (us[i].f1[j] + sm (us[i].f1.drop (j + 1))) by omega]
      exact hc)
    refine Ev.step (fun k => ?_) ih
    simp only [lombardlaw29_CloseWhole.l1, rdR hi, rdU2 hu, rdl hp, rdl hq, up hp (by omega), e1, e2, e3]
    rw [if_pos (by omega), if_pos (by omega), if_pos (by omega), if_pos (by omega), if_pos (by omega), if_pos (by omega), if_neg (by omega), if_neg (by omega)]
    by_cases p : us[i].f1[j] > 0
    · rw [if_pos p]
      cases wf with
      | true => rw [if_pos rfl]
      | false => have := h4 rfl; exfalso; omega
    · rw [if_neg p]
theorem fallS_n : ∀ {l : List Rl} {loss : Int}, (∀ x ∈ l, PFall.Fair x) → 0 ≤ loss → 0 ≤ (fallS loss l).2 ∧ (fallS loss l).2 ≤ loss
  | [], _, _, h => ⟨h, Int.le_refl _⟩
  | x :: r, loss, hf, h => by
    have f := sm_bd (hf x (by simp)).2
    have fr : ∀ y ∈ r, PFall.Fair y := fun y hy => hf y (List.mem_cons_of_mem _ hy)
    unfold fallS
    split
    · have := fallS_n (loss := loss - sm x.f1) fr (by omega)
      show 0 ≤ (fallS (loss - sm x.f1) r).2 ∧ (fallS (loss - sm x.f1) r).2 ≤ loss
      omega
    · have := fallS_n (loss := 0) fr (by omega)
      show 0 ≤ (fallS 0 r).2 ∧ (fallS 0 r).2 ≤ loss
      omega
theorem whole_l0 (x0 : Int) (h0 : 0 ≤ x0) (h1 : x0 ≤ 1125899906842624) (l : List Rl) (hl : l.length ≤ 64) (hf : ∀ x ∈ l, PFall.Fair x) (us : List Us) (n : Int) : ∀ (m i : Nat) (loss : Int) (wf : Bool), i + m = l.length →
    us.drop i = (fallS loss (l.drop i)).1.map toUs → n = (fallS loss (l.drop i)).2 → 0 ≤ loss → loss ≤ x0 → (wf = false → loss = 0) →
    Ev (fun k => lombardlaw29_CloseWhole.l0 k x0 l us n (x0 - loss + n) wf (i : Int)) true
  | 0, i, loss, wf, hi, hu, hn, l0, l1, hw => by
    rw [List.drop_of_length_le (by omega)] at hn
    have hn : n = loss := hn
    refine Ev.step (f := fun k => (lombardlaw29_awake.f k).bind fun t => (some t)) (fun k => ?_) (Ev.bind awake_ev (Ev.now _))
    simp only [lombardlaw29_CloseWhole.l0]
    rw [if_neg (by omega), if_pos (by omega)]
    by_cases z : n = 0
    · rw [if_pos z]
    · rw [if_neg z]
      cases wf with
      | true => rw [if_pos rfl]
      | false => have := hw rfl; omega
  | m + 1, i, loss, wf, hi, hu, hn, l0, l1, hw => by
    have h : i < l.length := by omega
    obtain ⟨f1, f2⟩ := hf l[i] (List.getElem_mem h)
    have b := sm_bd f2
    have nb := fallS_n (l := l.drop i) (fun x hx => hf x (List.mem_of_mem_drop hx)) l0
    rw [← hn] at nb
    rw [List.drop_eq_getElem_cons h] at hu hn
    have hus : i < us.length := by
      rcases Nat.lt_or_ge i us.length with z | z
      · exact z
      · rw [List.drop_of_length_le z] at hu
        have := congrArg List.length hu
        rw [List.length_map, fallS_len] at this
        simp at this
        omega
    rw [List.drop_eq_getElem_cons hus] at hu
    unfold fallS at hu hn
    refine Ev.step (f := fun k => lombardlaw29_CloseWhole.l0 (k + 1) x0 l us n (x0 - loss + n) wf (i : Int)) (fun k => rfl) ?_
    by_cases c : loss ≥ sm l[i].f1
    · rw [if_pos c] at hu hn
      obtain ⟨u1, u2⟩ := List.cons.inj hu
      have u3 : us[i].f1 = l[i].f1 := by rw [u1]; rfl
      simp only [lombardlaw29_CloseWhole.l0, rdR h, rdU2 hus, u3, if_pos (show (i : Int) < (l.length : Int) by omega), if_pos (show (0 : Int) ≤ (i : Int) by omega), if_pos (show (i : Int) < (us.length : Int) by omega), if_true]
      refine whole_l1 x0 l us n i h hus hl wf f1 f2 (by rw [u3]; exact Sub.refl f2) l[i].f1.length 0 (x0 - loss + n) 0 (by omega) (by omega) (by rw [u3, List.drop_zero]; omega) (by omega) (by rw [List.drop_zero]; omega) (fun z => by rw [u3, List.drop_zero]; have := hw z; omega) ?_
      rw [u3, List.drop_zero]
      have e := whole_l0 x0 h0 h1 l hl hf us n m (i + 1) (loss - sm l[i].f1) wf (by omega) u2 hn (by omega) (by omega) (fun z => by have := hw z; omega)
      rw [show x0 - loss + n + sm l[i].f1 = x0 - (loss - sm l[i].f1) + n by omega, show (0 + sm l[i].f1 - sm l[i].f1 == 0) = true by simp, Bool.and_true]
      exact e
    · rw [if_neg c] at hu hn
      obtain ⟨u1, u2⟩ := List.cons.inj hu
      have u3 : us[i].f1 = shareS loss l[i].f1 := by rw [u1]; rfl
      have s1 := share_sm l0 (by omega) f2
      have s2 := share_sub l0 (by omega) f2
      have s3 : (shareS loss l[i].f1).length = l[i].f1.length := share_len _ _
      simp only [lombardlaw29_CloseWhole.l0, rdR h, rdU2 hus, u3, s3, if_pos (show (i : Int) < (l.length : Int) by omega), if_pos (show (0 : Int) ≤ (i : Int) by omega), if_pos (show (i : Int) < (us.length : Int) by omega), if_true]
      refine whole_l1 x0 l us n i h hus hl wf f1 f2 (by rw [u3]; exact s2) l[i].f1.length 0 (x0 - loss + n) 0 (by omega) (by omega) (by rw [u3, List.drop_zero, s1]; omega) (by omega) (by rw [List.drop_zero]; omega) (fun z => by rw [u3, List.drop_zero, s1]; exact hw z) ?_
      rw [u3, List.drop_zero, s1, List.drop_zero]
      have e := whole_l0 x0 h0 h1 l hl hf us n m (i + 1) 0 false (by omega) u2 hn (by omega) (by omega) (fun _ => rfl)
      rw [show x0 - loss + n + loss = x0 - 0 + n by omega, show (0 + sm l[i].f1 - loss == 0) = false by simp; omega, Bool.and_false]
      exact e
theorem CloseWhole : CloseWhole.Pure := by
  intro a0 l1 _ hl
  apply Ev.rounds
  unfold lombardlaw29_CloseWhole.f
  refine Ev.bind (layers_ev (by omega)) ?_
  refine Ev.bind (fall_ev a0 l1) ?_
  unfold fallR usOf
  split
  · simp only [List.map_nil, List.length_nil, if_neg (show ¬ (1 : Int) = 0 by omega), Int.natCast_zero, if_true]
    exact Ev.bind awake_ev (Ev.now _)
  · rename_i c
    split
    · rename_i s
      simp only [List.map_nil, List.length_nil, Int.natCast_zero, if_true]
      exact Ev.bind awake_ev (Ev.now _)
    · rename_i s
      have hf := scan_fair (l := l1) (by simpa using s)
      simp only [List.length_map, fallS_len, if_true]
      have e := whole_l0 a0 (by omega) (by omega) l1 (by omega) hf ((fallS a0 l1).1.map toUs) (fallS a0 l1).2 l1.length 0 a0 true (by omega) (by rw [List.drop_zero, List.drop_zero]) (by rw [List.drop_zero]) (by omega) (by omega) (fun z => by cases z)
      rw [show a0 - a0 + (fallS a0 l1).2 = (fallS a0 l1).2 by omega] at e
      exact e
end Go.Proofs.Ytlbhjkbjokiioaa.Pure
