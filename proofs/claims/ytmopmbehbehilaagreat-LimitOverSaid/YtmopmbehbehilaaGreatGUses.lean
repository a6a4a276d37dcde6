/- The reference's table and the program's; Uses of both. -/
import Derived.Test.YtmopmbehbehilaaGreatTLimX
import Derived.Test.YtmopmbehbehilaaGreatTAwake
set_option linter.unusedVariables false
set_option linter.unusedSimpArgs false
namespace Go.Proofs.YtmopmbehbehilaaGreat.Pure
open Go Go.Ab Go.Proofs.YtmopmbehbehilaaGreat.R

/-- The reference's table tells of the program's. -/
structure Ply (r : lombardref16_Table) (t : limit_Table) (n : Nat) : Prop where
  kt : Kt t n
  issuer : r.Issuer = t.issuer
  asset : r.Asset = t.asset
  i : ∀ k, ofI k r.L = t.issuers.getD k 0
  a : ∀ k, ofA k r.L = t.assets.getD k 0
  s : sumL r.L = t.sum
  len : r.L.length ≤ n
  nn : ∀ p ∈ r.L, 0 ≤ p.Cover
  sm : sumL r.L ≤ n * 1125899906842624
theorem Ply.bd {r : lombardref16_Table} {t : limit_Table} {n : Nat} (h : Ply r t n) (hn : n ≤ 1000) : Small r.L := ⟨h.nn, by have := h.sm; omega⟩
def withR (r : lombardref16_Table) (a : api_Asset) (c : Int) : lombardref16_Table := ⟨r.Need, r.Issuer, r.Asset, r.L ++ [⟨a.Issuer, a.ISIN, c⟩]⟩
theorem app32 {n : Nat} (h : n ≤ 3000000) : App 32 n := ⟨by unfold maxLen; omega, by omega⟩
theorem RWith_r {r : lombardref16_Table} {a : api_Asset} {c : Int} (h : r.L.length ≤ 1000) : _lombardref16_Table_with_r r a c (withR r a c) := by
  refine _lombardref16_Table_with_of ?_
  unfold _lombardref16_Table_with_w
  exact ApZ.i (app32 (by omega)) (App2.i (app32 (by simp; omega)) (Rt.i rfl))
theorem Ply_put {r : lombardref16_Table} {t : limit_Table} {n : Nat} {a : api_Asset} {c : Int} (h : Ply r t n) (hn : n ≤ 1000) (ha : InK .i64 a.Issuer) (hb : a.ISIN.size ≤ maxLen) (hc : 0 ≤ c ∧ c ≤ 1125899906842624) : Ply (withR r a c) (putT t a c) (n + 1) := by
  have l1 := h.kt.li; have l2 := h.kt.la
  refine ⟨⟨ok_put h.kt.i ha (by omega), ok_put h.kt.a hb (by omega), ?_, ?_⟩, h.issuer, h.asset, fun k => ?_, fun k => ?_, ?_, ?_, ?_, ?_⟩
  · have := putL_len a.Issuer (t.issuers.getD a.Issuer 0 + c) t.issuers.clock t.issuers.es
    show (putL _ _ _ _).length ≤ _; omega
  · have := putL_len a.ISIN (t.assets.getD a.ISIN 0 + c) t.assets.clock t.assets.es
    show (putL _ _ _ _).length ≤ _; omega
  · simp only [withR, putT, getD_put, ofI_app, h.i]
    by_cases e : a.Issuer = k
    · rw [if_pos e, if_pos e.symm, e]
    · rw [if_neg e, if_neg (fun e2 => e e2.symm)]; omega
  · simp only [withR, putT, getD_put, ofA_app, h.a]
    by_cases e : a.ISIN = k
    · rw [if_pos e, if_pos e.symm, e]
    · rw [if_neg e, if_neg (fun e2 => e e2.symm)]; omega
  · simp only [withR, putT, sumL_app, h.s]
  · have := h.len; simp only [withR, List.length_append, List.length_cons, List.length_nil]; omega
  · intro p hp
    rcases List.mem_append.1 hp with hp | hp
    · exact h.nn p hp
    · simp at hp; subst hp; exact hc.1
  · have := h.sm; simp only [withR, sumL_app]; omega
theorem Gput_r {r : lombardref16_Table} {t : limit_Table} {n : Nat} {a : api_Asset} {c : Int} (h : Ply r t n) (hn : n ≤ 1000) (hc : 0 ≤ c ∧ c ≤ 1125899906842624) : limit_Table_put_r t a c (putT t a c) := by
  refine limit_Table_put_of ?_
  unfold limit_Table_put_w
  have b1 := ofI_nn (k := a.Issuer) h.nn; have b2 := ofA_nn (k := a.ISIN) h.nn
  rw [h.i] at b1; rw [h.a] at b2
  have b3 := h.s; have b4 := h.sm
  exact ⟨_, _, Look.i (Num.n (by omega) ⟨_, Put.i ⟨_, _, Look.i (Num.n (by omega) ⟨_, Put.i (Num.n (by omega) (Rt.i rfl))⟩)⟩⟩)⟩

theorem posI_len {t : limit_Table} {n : Nat} (h : Kt t n) : (posI t.issuers).length ≤ n := by
  have h1 := h.li
  have l1 : (sortI t.issuers.keys).length ≤ n := by rw [sortI_len]; simp [GM.keys]; omega
  have := List.length_filter_le (fun k => decide (0 < t.issuers.getD k 0)) (sortI t.issuers.keys)
  unfold posI; omega
theorem posS_len {t : limit_Table} {n : Nat} (h : Kt t n) : (posS t.assets).length ≤ n := by
  have h1 := h.la
  have l1 : (sortS t.assets.keys).length ≤ n := by rw [sortS_len]; simp [GM.keys]; omega
  have := List.length_filter_le (fun k => decide (0 < t.assets.getD k 0)) (sortS t.assets.keys)
  unfold posS; omega

theorem usesI_loop {r : lombardref16_Table} {t : limit_Table} {n : Nat} {Q : List lombardref16_Use → Prop} (h : Ply r t n) (hn : n ≤ 1000) (q : Q ((posI t.issuers).map fun k => toldU (useI t k))) :
    ∀ (k : Nat) (hv : Bool) (last : Int), ((r.L.map (·.Issuer)).filter fun x => decide (okk (fun a b : Int => a < b) hv last x)).length ≤ k → _lombardref16_Table_Uses_L0 r Q last hv ((toldTo (fun a b : Int => a < b) (posI t.issuers) hv last).map fun k => toldU (useI t k)) := by
  have hl := h.len
  have hpl := posI_len h.kt
  have hP := posI_lt h.kt.i
  have hPl : ∀ k ∈ posI t.issuers, k ∈ r.L.map (·.Issuer) := fun k hk => by
    have h1 := (mem_posI (m := t.issuers)).1 hk
    rcases Classical.em (k ∈ r.L.map (·.Issuer)) with hm | hm
    · exact hm
    · have := ofI_none hm; rw [h.i] at this; omega
  intro k
  induction k with
  | zero =>
    intro hv last hk
    refine _lombardref16_Table_Uses_l0 ?_
    unfold _lombardref16_Table_Uses_w0
    refine nextI_l (by omega) _ 0 (0, false) rfl ?_
    have sp := next_spec ordI (hv := hv) (last := last) (r.L.map (·.Issuer)) (0, false) (fun h => by cases h)
    rw [List.drop_zero]
    generalize nextP (fun a b : Int => a < b) hv last (r.L.map (·.Issuer)) (0, false) = R at sp ⊢
    cases hR : R.2 with
    | false =>
      refine Br.t rfl (Lf.i ?_)
      rw [told_end hPl (sp.1 hR).2]; exact q
    | true =>
      have s2 := sp.2 hR
      have := List.length_eq_zero_iff.1 (Nat.le_zero.1 hk)
      have hm : R.1 ∈ (r.L.map (·.Issuer)).filter fun x => decide (okk (fun a b : Int => a < b) hv last x) := List.mem_filter.2 ⟨s2.2.1.resolve_right (by simp), decide_eq_true s2.1⟩
      rw [this] at hm; cases hm
  | succ k ih =>
    intro hv last hk
    refine _lombardref16_Table_Uses_l0 ?_
    unfold _lombardref16_Table_Uses_w0
    refine nextI_l (by omega) _ 0 (0, false) rfl ?_
    have sp := next_spec ordI (hv := hv) (last := last) (r.L.map (·.Issuer)) (0, false) (fun h => by cases h)
    rw [List.drop_zero]
    generalize nextP (fun a b : Int => a < b) hv last (r.L.map (·.Issuer)) (0, false) = R at sp ⊢
    cases hR : R.2 with
    | false =>
      refine Br.t rfl (Lf.i ?_)
      rw [told_end hPl (sp.1 hR).2]; exact q
    | true =>
      have s2 := sp.2 hR
      have hbl := s2.2.1.resolve_right (by simp)
      have hless := okk_less ordI s2.1 hbl
      have : DecidablePred (fun x => x ∈ posI t.issuers) := fun _ => Classical.propDecidable _
      have st := told_step ordI hP hPl s2.1 s2.2.2.1
      have nx := ih true R.1 (by omega)
      rw [st, List.map_append] at nx
      have o := ROfI_r (k := R.1) (h.bd hn) (by omega)
      rw [h.i] at o
      refine Br.f rfl ⟨_, o, Br.i (fun c => ⟨_, o, App2.i (app40 ?_) ?_⟩) (fun c => ?_)⟩
      · have := List.length_filter_le (fun k => decide (¬ okk (fun a b : Int => a < b) hv last k)) (posI t.issuers)
        simp only [toldTo, List.length_map, List.length_cons, List.length_nil]; omega
      · rw [if_pos ((mem_posI (m := t.issuers)).2 c)] at nx
        rw [h.issuer]
        exact nx
      · rw [if_neg (fun e => c ((mem_posI (m := t.issuers)).1 e))] at nx
        simp only [List.map_nil, List.append_nil] at nx
        exact nx

theorem usesA_loop {r : lombardref16_Table} {t : limit_Table} {n : Nat} {Q : List lombardref16_Use → Prop} (h : Ply r t n) (hn : n ≤ 1000) (q : Q ((posS t.assets).map fun k => toldU (useA t k))) :
    ∀ (k : Nat) (hv : Bool) (last : ByteArray), ((r.L.map (·.ISIN)).filter fun x => decide (okk bLt hv last x)).length ≤ k → _lombardref16_Table_assets_L0 r Q last hv ((toldTo bLt (posS t.assets) hv last).map fun k => toldU (useA t k)) := by
  have hl := h.len
  have hpl := posS_len h.kt
  have hP := posS_lt h.kt.a
  have hPl : ∀ k ∈ posS t.assets, k ∈ r.L.map (·.ISIN) := fun k hk => by
    have h1 := (mem_posS (m := t.assets)).1 hk
    rcases Classical.em (k ∈ r.L.map (·.ISIN)) with hm | hm
    · exact hm
    · have := ofA_none hm; rw [h.a] at this; omega
  intro k
  induction k with
  | zero =>
    intro hv last hk
    refine _lombardref16_Table_assets_l0 ?_
    unfold _lombardref16_Table_assets_w0
    refine nextA_l (by omega) _ 0 ((⟨#[]⟩ : ByteArray), false) rfl ?_
    have sp := next_spec ordS (hv := hv) (last := last) (r.L.map (·.ISIN)) ((⟨#[]⟩ : ByteArray), false) (fun h => by cases h)
    rw [List.drop_zero]
    generalize nextP bLt hv last (r.L.map (·.ISIN)) ((⟨#[]⟩ : ByteArray), false) = R at sp ⊢
    cases hR : R.2 with
    | false =>
      refine Br.t rfl (Lf.i ?_)
      rw [told_end hPl (sp.1 hR).2]; exact q
    | true =>
      have s2 := sp.2 hR
      have := List.length_eq_zero_iff.1 (Nat.le_zero.1 hk)
      have hm : R.1 ∈ (r.L.map (·.ISIN)).filter fun x => decide (okk bLt hv last x) := List.mem_filter.2 ⟨s2.2.1.resolve_right (by simp), decide_eq_true s2.1⟩
      rw [this] at hm; cases hm
  | succ k ih =>
    intro hv last hk
    refine _lombardref16_Table_assets_l0 ?_
    unfold _lombardref16_Table_assets_w0
    refine nextA_l (by omega) _ 0 ((⟨#[]⟩ : ByteArray), false) rfl ?_
    have sp := next_spec ordS (hv := hv) (last := last) (r.L.map (·.ISIN)) ((⟨#[]⟩ : ByteArray), false) (fun h => by cases h)
    rw [List.drop_zero]
    generalize nextP bLt hv last (r.L.map (·.ISIN)) ((⟨#[]⟩ : ByteArray), false) = R at sp ⊢
    cases hR : R.2 with
    | false =>
      refine Br.t rfl (Lf.i ?_)
      rw [told_end hPl (sp.1 hR).2]; exact q
    | true =>
      have s2 := sp.2 hR
      have hbl := s2.2.1.resolve_right (by simp)
      have hless := okk_less ordS s2.1 hbl
      have : DecidablePred (fun x => x ∈ posS t.assets) := fun _ => Classical.propDecidable _
      have st := told_step ordS hP hPl s2.1 s2.2.2.1
      have nx := ih true R.1 (by omega)
      rw [st, List.map_append] at nx
      have o := ROfA_r (k := R.1) (h.bd hn) (by omega)
      rw [h.a] at o
      refine Br.f rfl ⟨_, o, Br.i (fun c => ⟨_, o, App2.i (app40 ?_) ?_⟩) (fun c => ?_)⟩
      · have := List.length_filter_le (fun k => decide (¬ okk bLt hv last k)) (posS t.assets)
        simp only [toldTo, List.length_map, List.length_cons, List.length_nil]; omega
      · rw [if_pos ((mem_posS (m := t.assets)).2 c)] at nx
        rw [h.asset]
        exact nx
      · rw [if_neg (fun e => c ((mem_posS (m := t.assets)).1 e))] at nx
        simp only [List.map_nil, List.append_nil] at nx
        exact nx

theorem RAssets_r {r : lombardref16_Table} {t : limit_Table} {n : Nat} (h : Ply r t n) (hn : n ≤ 1000) : _lombardref16_Table_assets_r r ((posS t.assets).map fun k => toldU (useA t k)) := by
  refine _lombardref16_Table_assets_of ?_
  unfold _lombardref16_Table_assets_w
  have := usesA_loop (Q := fun y => _lombardref16_Table_assets_e (fun v => v = (posS t.assets).map fun k => toldU (useA t k)) y) h hn (Rt.i rfl) _ false (⟨#[]⟩ : ByteArray) (Nat.le_refl _)
  rw [told_start] at this
  exact this
theorem RUses_r {r : lombardref16_Table} {t : limit_Table} {n : Nat} (h : Ply r t n) (hn : n ≤ 1000) : _lombardref16_Table_Uses_r r ((usesT t).map toldU) := by
  have l1 := posI_len h.kt; have l2 := posS_len h.kt
  refine _lombardref16_Table_Uses_of ?_
  unfold _lombardref16_Table_Uses_w
  have := usesI_loop (Q := fun y => ∃ r2 : List lombardref16_Use, (_lombardref16_Table_assets_r r r2) ∧ (App2 40 lombardref16_Use.enc y r2 (_lombardref16_Table_Uses_e (fun v => v = (usesT t).map toldU) (y ++ r2)))) h hn
    ⟨_, RAssets_r h hn, App2.i (app40 (by simp only [List.length_map]; omega)) (Rt.i (by rw [usesT_eq, List.map_append, List.map_map, List.map_map]; rfl))⟩ _ false 0 (Nat.le_refl _)
  rw [told_start] at this
  exact this

theorem RNew1 {b : api_Basket} {need : Int} (h : newOk b need) : lombardref16_New_r b need (⟨need, (newT b need).issuer, (newT b need).asset, []⟩, 0) := by
  obtain ⟨h1, h2, h3, h4, h5, h6⟩ := h
  refine lombardref16_New_of ?_
  unfold lombardref16_New_w
  exact Br.neg (by omega) (Br.neg (by omega) (Br.neg (by omega) (Br.neg (by omega) (Br.neg (by omega) (Br.neg (by omega) ⟨_, RMulDiv_r (iok (by omega)) (iok (by omega)) (by decide), _, RMulDiv_r (iok (by omega)) (iok (by omega)) (by decide), Rt.i rfl⟩)))))
theorem RNew0 {b : api_Basket} {need : Int} (h : ¬ newOk b need) : lombardref16_New_r b need (⟨0, 0, 0, []⟩, 1) := by
  refine lombardref16_New_of ?_
  unfold lombardref16_New_w
  refine Br.i (fun c => Rt.i rfl) (fun c1 => Br.i (fun c => Rt.i rfl) (fun c2 => Br.i (fun c => Rt.i rfl) (fun c3 => Br.i (fun c => Rt.i rfl) (fun c4 => Br.i (fun c => Rt.i rfl) (fun c5 => Br.i (fun c => Rt.i rfl) (fun c6 => absurd ?_ h))))))
  unfold newOk; omega

end Go.Proofs.YtmopmbehbehilaaGreat.Pure
