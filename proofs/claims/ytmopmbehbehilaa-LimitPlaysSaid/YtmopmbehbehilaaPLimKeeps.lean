/- LimitKeeps. -/
import Derived.Test.YtmopmbehbehilaaTLimU
import Derived.Test.YtmopmbehbehilaaPLimNobody
set_option linter.unusedVariables false
set_option linter.unusedSimpArgs false
namespace Go.Proofs.Ytmopmbehbehilaa.Pure
open Go Go.Ab Go.Proofs.Ytmopmbehbehilaa.R

theorem mem_usesT {t : limit_Table} (h : Tok t) {u : limit_Use} (hu : u ∈ usesT t) : ¬ u.Cover > u.Limit ∧ ¬ u.Cover < 1 := by
  unfold usesT at hu
  rcases List.mem_append.1 hu with hu | hu
  · obtain ⟨k, hk, rfl⟩ := List.mem_map.1 hu
    have := (List.mem_filter.1 hk).2
    have h0 : 0 < t.issuers.getD k 0 := by simpa using this
    have h1 := (h.issuers k).2
    show ¬ t.issuers.getD k 0 > t.issuer ∧ ¬ t.issuers.getD k 0 < 1
    omega
  · obtain ⟨k, hk, rfl⟩ := List.mem_map.1 hu
    have := (List.mem_filter.1 hk).2
    have h0 : 0 < t.assets.getD k 0 := by simpa using this
    have h1 := (h.assets k).2
    show ¬ t.assets.getD k 0 > t.asset ∧ ¬ t.assets.getD k 0 < 1
    omega
theorem usesT_len {t : limit_Table} {n : Nat} (h : Kt t n) : (usesT t).length ≤ 2 * n := by
  unfold usesT
  have h1 := h.li; have h2 := h.la
  have l1 : (sortI t.issuers.keys).length ≤ n := by rw [sortI_len]; simp [GM.keys]; omega
  have l2 : (sortS t.assets.keys).length ≤ n := by rw [sortS_len]; simp [GM.keys]; omega
  have f1 := List.length_filter_le (fun k => decide (0 < t.issuers.getD k 0)) (sortI t.issuers.keys)
  have f2 := List.length_filter_le (fun k => decide (0 < t.assets.getD k 0)) (sortS t.assets.keys)
  simp only [List.length_append, List.length_map]; omega

theorem keeps_inner {a2 : List lombardlaw16_Act} {s0 : Int} {r : List limit_Use} {y : Int × Int × Int × Int × (GM Int Int) × (GM ByteArray Int)} {Q0 Q1 : Unit → Prop} (hr : ∀ u ∈ r, ¬ u.Cover > u.Limit ∧ ¬ u.Cover < 1) (hl : r.length ≤ 3000000) (q : Q1 ()) :
    ∀ (n s : Nat), n + s = r.length → lombardlaw16_LimitKeeps_L1b a2 s0 r y Q0 Q1 (s : Int)
  | 0, s, h => by
    refine lombardlaw16_LimitKeeps_l1b ?_
    unfold lombardlaw16_LimitKeeps_w1b
    rw [lenM_eq]
    exact Br.neg (by omega) (Lf.i q)
  | n + 1, s, h => by
    have hs : s < r.length := by omega
    refine lombardlaw16_LimitKeeps_l1b ?_
    unfold lombardlaw16_LimitKeeps_w1b
    rw [lenM_eq]
    have hm := hr _ (List.getElem_mem hs)
    have g : r[(s : Int).toNat]? = some r[s] := by simp [hs]
    refine Br.pos (by omega) ⟨r[s], Got.i (Got.i (Br.neg hm.1 (Got.i (Br.neg hm.2 (Num.n (by omega) ?_)) (by omega) g)) (by omega) g) (by omega) g⟩
    exact keeps_inner hr hl q n (s + 1) (by omega)

theorem Kt.up {t : limit_Table} {n m : Nat} (h : Kt t n) (hm : n ≤ m) : Kt t m := ⟨h.tok, by have := h.sum; omega, h.i, h.a, by have := h.li; omega, by have := h.la; omega⟩

theorem keeps_loop {a2 : List lombardlaw16_Act} {Q0 Q1 : Unit → Prop} (hk : ∀ x ∈ a2, InK .i64 x.Asset.Issuer ∧ x.Asset.ISIN.size ≤ maxLen) (q : Q0 ()) :
    ∀ (n s : Nat) (t : limit_Table), n + s = 60 → Kt t s → lombardlaw16_LimitKeeps_L0b a2 Q0 Q1 (s : Int) t.need t.issuer t.asset t.sum t.issuers t.assets
  | 0, s, t, h, hk0 => by
    refine lombardlaw16_LimitKeeps_l0b ?_
    unfold lombardlaw16_LimitKeeps_w0b
    exact Br.i (fun _ => Br.neg (by omega) (Lf.i q)) (fun _ => Lf.i q)
  | n + 1, s, t, h, hk0 => by
    refine lombardlaw16_LimitKeeps_l0b ?_
    unfold lombardlaw16_LimitKeeps_w0b
    rw [lenM_eq]
    refine Br.i (fun c => ?_) (fun _ => Lf.i q)
    have hs : s < a2.length := by omega
    have hm := hk _ (List.getElem_mem hs)
    refine Br.pos (by omega) ⟨a2[s], Got.i ?_ (by omega) (by simp [hs])⟩
    refine ⟨room t a2[s].Asset, TRoom_r (t := t) hk0.tok, Br.i (fun _ => ?_) (fun _ => ?_)⟩
    · refine ⟨addT t a2[s].Asset a2[s].Cover, TAdd_r (t := t) hk0.tok, ?_⟩
      have nx : ∀ t', Kt t' (s + 1) → lombardlaw16_LimitKeeps_j2 a2 (s : Int) (lombardlaw16_LimitKeeps_L0b a2 Q0 Q1) Q0 Q1 (t'.need, t'.issuer, t'.asset, t'.sum, t'.issuers, t'.assets) := by
        intro t' h'
        unfold lombardlaw16_LimitKeeps_j2
        refine Jn.i ⟨_, Uses_r h' (by omega), keeps_inner (fun u hu => mem_usesT h'.tok hu) (by have := usesT_len h'; omega) (Num.n (by omega) ?_) _ 0 rfl⟩
        exact keeps_loop hk q n (s + 1) t' (by omega) h'
      have hadd := Kt_add (c := a2[s].Cover) hk0 (by omega) hm.1 hm.2
      refine Br.i (fun c0 => Br.f ?_ (nx _ hadd)) (fun c0 => Br.f ?_ (nx _ hadd))
      · unfold addT
        rw [if_neg (by omega)]
        by_cases hc : room t a2[s].Asset < a2[s].Cover
        · rw [if_pos hc, decide_eq_false (by omega)]; rfl
        · rw [if_neg hc, decide_eq_true (by omega)]; rfl
      · unfold addT
        rw [if_pos (by omega)]; rfl
    · unfold lombardlaw16_LimitKeeps_j2
      have h' := hk0.up (Nat.le_succ s)
      refine Jn.i ⟨_, Uses_r (t := t) h' (by omega), keeps_inner (fun u hu => mem_usesT h'.tok hu) (by have := usesT_len h'; omega) (Num.n (by omega) ?_) _ 0 rfl⟩
      exact keeps_loop hk q n (s + 1) t (by omega) h'

theorem New_r0 {b : api_Basket} {need : Int} (h : ¬ newOk b need) : limit_New_r0 b need 1 := by
  refine limit_New_of0 ?_
  unfold limit_New_w
  refine Br.i (fun c => Rt.i rfl) (fun c1 => Br.i (fun c => Rt.i rfl) (fun c2 => Br.i (fun c => Rt.i rfl) (fun c3 => Br.i (fun c => Rt.i rfl) (fun c4 => Br.i (fun c => Rt.i rfl) (fun c5 => Br.i (fun c => Rt.i rfl) (fun c6 => absurd ?_ h))))))
  unfold newOk; omega

theorem LimitKeeps_r (b : api_Basket) (need : Int) (acts : List lombardlaw16_Act) (hk : ∀ x ∈ acts, InK .i64 x.Asset.Issuer ∧ x.Asset.ISIN.size ≤ maxLen) : lombardlaw16_LimitKeeps_r b need acts true := by
  refine lombardlaw16_LimitKeeps_of ?_
  unfold lombardlaw16_LimitKeeps_w
  by_cases h : newOk b need
  · refine .inr ⟨_, New_r1 h, Br.f (by rfl) ?_⟩
    exact keeps_loop hk ⟨_, awake_r, Rt.i rfl⟩ 60 0 (newT b need) rfl (Kt_new h)
  · exact .inl ⟨_, New_r0 h, Br.t (by rfl) ⟨_, awake_r, Rt.i rfl⟩⟩
end Go.Proofs.Ytmopmbehbehilaa.Pure
