/- LimitBack. -/
import Derived.Test.YtmopmbehbehilaaTLimV
import Derived.Test.YtmopmbehbehilaaPLimKeeps
set_option linter.unusedVariables false
set_option linter.unusedSimpArgs false
namespace Go.Proofs.Ytmopmbehbehilaa.Pure
open Go Go.Ab Go.Proofs.Ytmopmbehbehilaa.R

theorem usesT_len3 {t : limit_Table} {n : Nat} (h : Kt t n) (hn : n ≤ 1000) : (usesT t).length ≤ 3000000 := by have := usesT_len h; omega

theorem back_loop {a2 : List lombardlaw16_Act} {a3 : api_Asset} {a4 : Int} {Q0 : (Int × Int × Int × Int × (GM Int Int) × (GM ByteArray Int)) → Prop} (hk : ∀ x ∈ a2, InK .i64 x.Asset.Issuer ∧ x.Asset.ISIN.size ≤ maxLen) (q : ∀ t n, n ≤ 60 → Kt t n → Q0 (t.need, t.issuer, t.asset, t.sum, t.issuers, t.assets)) :
    ∀ (n s : Nat) (t : limit_Table), n + s = 60 → Kt t s → lombardlaw16_LimitBack_L0b a2 a4 a3 Q0 (s : Int) t.need t.issuer t.asset t.sum t.issuers t.assets
  | 0, s, t, h, hk0 => by
    refine lombardlaw16_LimitBack_l0b ?_
    unfold lombardlaw16_LimitBack_w0b
    exact Br.i (fun _ => Br.neg (by omega) (Lf.i (q t s (by omega) hk0))) (fun _ => Lf.i (q t s (by omega) hk0))
  | n + 1, s, t, h, hk0 => by
    refine lombardlaw16_LimitBack_l0b ?_
    unfold lombardlaw16_LimitBack_w0b
    rw [lenM_eq]
    refine Br.i (fun c => ?_) (fun _ => Lf.i (q t s (by omega) hk0))
    have hs : s < a2.length := by omega
    have hm := hk _ (List.getElem_mem hs)
    have g : a2[(s : Int).toNat]? = some a2[s] := by simp [hs]
    refine Br.pos (by omega) ⟨a2[s], Got.i ?_ (by omega) g⟩
    refine Br.i (fun _ => ?_) (fun _ => Num.n (by omega) ?_)
    · refine Got.i (Got.i ?_ (by omega) g) (by omega) g
      refine ⟨addT t a2[s].Asset a2[s].Cover, TAdd_r (t := t) hk0.tok, Num.n (by omega) ?_⟩
      exact back_loop hk q n (s + 1) _ (by omega) (Kt_add hk0 (by omega) hm.1 hm.2)
    · exact back_loop hk q n (s + 1) t (by omega) (hk0.up (Nat.le_succ s))

theorem back_rest {t : limit_Table} {n : Nat} {a : api_Asset} {c : Int} {v : Int × limit_Table} (hv : v = addT t a c) (hn : n ≤ 60) (h : Kt t n) (ha : InK .i64 a.Issuer) (hb : a.ISIN.size ≤ maxLen) (h0 : v.1 = 0) :
    v.2.sum = t.sum + c ∧ InR (t.sum + c) ∧ (takeT v.2 a c).1 = 0 ∧ Kt (takeT v.2 a c).2 (n + 2) ∧ usesT (takeT v.2 a c).2 = usesT t ∧ (takeT v.2 a c).2.sum = t.sum := by
  have hadd := Kt_add (c := c) h (by omega) ha hb
  rw [← hv] at hadd
  have hr := room_le (a := a) h.tok
  have hs := h.tok.sum
  have hs2 := h.sum
  unfold addT at hv
  by_cases c0 : c < 0
  · rw [if_pos c0] at hv; rw [hv] at h0; exact absurd h0 (show ¬ (1 : Int) = 0 by decide)
  · rw [if_neg c0] at hv
    by_cases c1 : room t a < c
    · rw [if_pos c1] at hv; rw [hv] at h0; exact absurd h0 (show ¬ (24 : Int) = 0 by decide)
    · rw [if_neg c1] at hv
      subst hv
      have gi : (putT t a c).issuers.getD a.Issuer 0 = t.issuers.getD a.Issuer 0 + c := by simp only [putT, getD_put, if_true]
      have ga : (putT t a c).assets.getD a.ISIN 0 = t.assets.getD a.ISIN 0 + c := by simp only [putT, getD_put, if_true]
      have b1 := h.tok.issuers a.Issuer; have b2 := h.tok.assets a.ISIN
      have et : takeT (putT t a c) a c = (0, putT (putT t a c) a (-c)) := by
        unfold takeT
        rw [if_neg c0, if_neg (by rw [ga]; omega), if_neg (by rw [gi]; omega)]
      have hk : Kt (takeT (putT t a c) a c).2 (n + 1 + 1) := Kt_take hadd (by omega) ha hb
      refine ⟨rfl, ⟨by omega, by omega⟩, by rw [et], hk, ?_, ?_⟩
      · refine usesT_ext hk h (by rw [et]; rfl) (by rw [et]; rfl) (fun k => ?_) (fun k => ?_)
        · rw [et]
          show ((putT t a c).issuers.put a.Issuer ((putT t a c).issuers.getD a.Issuer 0 + -c)).getD k 0 = _
          rw [getD_put, gi]
          split
          · rename_i e; subst e; omega
          · rename_i e; simp only [putT, getD_put]; rw [if_neg e]
        · rw [et]
          show ((putT t a c).assets.put a.ISIN ((putT t a c).assets.getD a.ISIN 0 + -c)).getD k 0 = _
          rw [getD_put, ga]
          split
          · rename_i e; subst e; omega
          · rename_i e; simp only [putT, getD_put]; rw [if_neg e]
      · rw [et]; show t.sum + c + -c = t.sum; omega

theorem LimitBack_r (b : api_Basket) (need : Int) (acts : List lombardlaw16_Act) (a : api_Asset) (c : Int) (hk : ∀ x ∈ acts, InK .i64 x.Asset.Issuer ∧ x.Asset.ISIN.size ≤ maxLen) (ha : InK .i64 a.Issuer) (hb : a.ISIN.size ≤ maxLen) : lombardlaw16_LimitBack_r b need acts a c true := by
  refine lombardlaw16_LimitBack_of ?_
  unfold lombardlaw16_LimitBack_w
  by_cases h : newOk b need
  · refine .inr ⟨_, New_r1 h, Br.f (by rfl) ?_⟩
    refine back_loop hk ?_ 60 0 (newT b need) rfl (Kt_new h)
    intro t n hn hk0
    have l0 := usesT_len3 hk0 (by omega)
    refine ⟨usesT t, Uses_r (t := t) hk0 (by omega), _, told_r l0, t.sum, TSum_r (t := t), addT t a c, TAdd_r (t := t) hk0.tok, ?_⟩
    have hadd := Kt_add (c := c) hk0 (by omega) ha hb
    have l1 := usesT_len3 hadd (by omega)
    refine Br.i (fun c0 => ?_) (fun c0 => ?_)
    · have e : (addT t a c).2 = t := by
        unfold addT at c0 ⊢
        by_cases c1 : c < 0
        · rw [if_pos c1]
        · rw [if_neg c1] at c0 ⊢
          by_cases c2 : room t a < c
          · rw [if_pos c2]
          · rw [if_neg c2] at c0; exact absurd rfl c0
      rw [e]
      exact ⟨_, Uses_r (t := t) hk0 (by omega), _, told_r l0, _, Same_r (by simpa using l0), Br.t rfl ⟨_, TSum_r (t := t), Br.t (by simp) ⟨_, awake_r, Rt.i rfl⟩⟩⟩
    · have c0 : (addT t a c).1 = 0 := by simpa using c0
      obtain ⟨e1, e2, e3, e4, e5, e6⟩ := back_rest rfl hn hk0 ha hb c0
      have l2 := usesT_len3 e4 (by omega)
      refine ⟨_, TSum_r, Num.n e2 (Br.t (by simp [e1]) ⟨_, TTake_r hadd.tok, Br.t (by simp [e3]) ⟨_, Uses_r e4 (by omega), _, told_r l2, true, ?_, Br.t rfl ⟨_, TSum_r, Br.t (by simp [e6]) ⟨_, awake_r, Rt.i rfl⟩⟩⟩⟩)⟩
      rw [e5]; exact Same_r (by simpa using l0)
  · exact .inl ⟨_, New_r0 h, Br.t (by rfl) ⟨_, awake_r, Rt.i rfl⟩⟩
end Go.Proofs.Ytmopmbehbehilaa.Pure
