/- LimitPlays. -/
import Derived.Test.YtmopmbehbehilaaTLimX
import Derived.Test.YtmopmbehbehilaaPLimBack
set_option linter.unusedVariables false
set_option linter.unusedSimpArgs false
namespace Go.Proofs.Ytmopmbehbehilaa.Pure
open Go Go.Ab Go.Proofs.Ytmopmbehbehilaa.R

/-- The reference's table tells of the program's. -/
structure Ply (r : lombardref16_Table) (t : limit_Table) (n : Nat) : Prop where
  kt : Kt t n
  issuer : r.Issuer = t.issuer
  asset : r.Asset = t.asset
  i : ∀ k, ofI k r.L = t.issuers.getD k 0
  a : ∀ k, ofA k r.L = t.assets.getD k 0
  s : sumL r.L = t.sum
  len : r.L.length ≤ n
  bd : Small r.L

theorem RRoom_r {r : lombardref16_Table} {t : limit_Table} {n : Nat} {a : api_Asset} (h : Ply r t n) (hn : n ≤ 1000) : _lombardref16_Table_Room_r r a (room t a) := by
  have hl := h.len
  refine _lombardref16_Table_Room_of ?_
  unfold _lombardref16_Table_Room_w
  have b1 := h.kt.tok.issuers a.Issuer; have b2 := h.kt.tok.assets a.ISIN; have b3 := h.kt.tok.issuer; have b4 := h.kt.tok.asset
  have o1 := ROfI_r (k := a.Issuer) h.bd (by omega)
  have o2 := ROfA_r (k := a.ISIN) h.bd (by omega)
  rw [h.i] at o1
  rw [h.a] at o2
  rw [h.issuer, h.asset]
  refine ⟨_, o1, Num.n (by omega) ⟨_, o2, Num.n (by omega) ?_⟩⟩
  unfold room
  refine Br.i (fun c => ⟨_, o2, Num.n (by omega) (Br.i (fun c2 => Rt.i (by omega)) (fun c2 => Rt.i (by omega)))⟩) (fun c => Br.i (fun c2 => Rt.i (by omega)) (fun c2 => Rt.i (by omega)))

def withR (r : lombardref16_Table) (a : api_Asset) (c : Int) : lombardref16_Table := ⟨r.Need, r.Issuer, r.Asset, r.L ++ [⟨a.Issuer, a.ISIN, c⟩]⟩
theorem app32 {n : Nat} (h : n ≤ 3000000) : App 32 n := ⟨by unfold maxLen; omega, by omega⟩
theorem RWith_r {r : lombardref16_Table} {a : api_Asset} {c : Int} (h : r.L.length ≤ 1000) : _lombardref16_Table_with_r r a c (withR r a c) := by
  refine _lombardref16_Table_with_of ?_
  unfold _lombardref16_Table_with_w
  exact ApZ.i (app32 (by omega)) (App2.i (app32 (by simp; omega)) (Rt.i rfl))
def addR (r : lombardref16_Table) (t : limit_Table) (a : api_Asset) (c : Int) : lombardref16_Table × Int := if c < 0 then (r, 1) else if room t a < c then (r, 24) else (withR r a c, 0)
theorem RAdd_r {r : lombardref16_Table} {t : limit_Table} {n : Nat} {a : api_Asset} {c : Int} (h : Ply r t n) (hn : n ≤ 1000) : _lombardref16_Table_Add_r r a c (addR r t a c) := by
  have hl := h.len
  refine _lombardref16_Table_Add_of ?_
  unfold _lombardref16_Table_Add_w addR
  refine Br.i (fun c0 => Rt.i (by rw [if_pos c0])) (fun c0 => ⟨_, RRoom_r h hn, Br.i (fun c1 => Rt.i (by rw [if_neg c0, if_pos c1])) (fun c1 => ⟨_, RWith_r (by omega), Rt.i (by rw [if_neg c0, if_neg c1])⟩)⟩)
def takeR (r : lombardref16_Table) (t : limit_Table) (a : api_Asset) (n : Int) : lombardref16_Table × Int := if n < 0 then (r, 1) else if t.assets.getD a.ISIN 0 < n then (r, 20) else if t.issuers.getD a.Issuer 0 < n then (r, 20) else (withR r a (0 - n), 0)
theorem RTake_r {r : lombardref16_Table} {t : limit_Table} {n : Nat} {a : api_Asset} {c : Int} (h : Ply r t n) (hn : n ≤ 1000) : _lombardref16_Table_Take_r r a c (takeR r t a c) := by
  have hl := h.len
  refine _lombardref16_Table_Take_of ?_
  unfold _lombardref16_Table_Take_w takeR
  have b2 := h.kt.tok.assets a.ISIN; have b4 := h.kt.tok.asset
  have o1 := ROfI_r (k := a.Issuer) h.bd (by omega)
  have o2 := ROfA_r (k := a.ISIN) h.bd (by omega)
  rw [h.i] at o1
  rw [h.a] at o2
  refine Br.i (fun c0 => Rt.i (by rw [if_pos c0])) (fun c0 => ⟨_, o2, Br.i (fun c1 => Rt.i (by rw [if_neg c0, if_pos c1])) (fun c1 => ⟨_, o1, Br.i (fun c2 => Rt.i (by rw [if_neg c0, if_neg c1, if_pos c2])) (fun c2 => Num.n (by omega) ⟨_, RWith_r (by omega), Rt.i (by rw [if_neg c0, if_neg c1, if_neg c2])⟩)⟩)⟩)

theorem Ply_put {r : lombardref16_Table} {t : limit_Table} {n : Nat} {a : api_Asset} {c : Int} (h : Ply r t n) (hk : Kt (putT t a c) (n + 1)) (hc : -1125899906842624 ≤ c ∧ c ≤ 1125899906842624) : Ply (withR r a c) (putT t a c) (n + 1) := by
  refine ⟨hk, h.issuer, h.asset, fun k => ?_, fun k => ?_, ?_, ?_, ?_⟩
  · simp only [withR, putT, getD_put, ofI_app, h.i]
    by_cases e : a.Issuer = k
    · rw [if_pos e, if_pos e.symm, e]
    · rw [if_neg e, if_neg (fun e2 => e e2.symm)]; omega
  · simp only [withR, putT, getD_put, ofA_app, h.a]
    by_cases e : a.ISIN = k
    · rw [if_pos e, if_pos e.symm, e]
    · rw [if_neg e, if_neg (fun e2 => e e2.symm)]; omega
  · simp only [withR, putT, sumL_app, h.s]
  · have := h.len; simp only [withR, List.length_append, List.length_cons, List.length_nil]; omega
  · intro p hp
    rcases List.mem_append.1 hp with hp | hp
    · exact h.bd p hp
    · simp at hp; subst hp; exact hc
theorem Ply.up {r : lombardref16_Table} {t : limit_Table} {n : Nat} (h : Ply r t n) : Ply r t (n + 1) := ⟨h.kt.up (Nat.le_succ n), h.issuer, h.asset, h.i, h.a, h.s, by have := h.len; omega, h.bd⟩
theorem Ply_add {r : lombardref16_Table} {t : limit_Table} {n : Nat} {a : api_Asset} {c : Int} (h : Ply r t n) (hn : n ≤ 1000) (ha : InK .i64 a.Issuer) (hb : a.ISIN.size ≤ maxLen) : Ply (addR r t a c).1 (addT t a c).2 (n + 1) ∧ (addR r t a c).2 = (addT t a c).1 ∧ (addT t a c).2.need = t.need := by
  have hk := Kt_add (c := c) h.kt hn ha hb
  have hr := room_le (a := a) h.kt.tok
  unfold addR
  unfold addT at hk ⊢
  by_cases c0 : c < 0
  · rw [if_pos c0, if_pos c0]; exact ⟨h.up, rfl, rfl⟩
  · rw [if_neg c0] at hk
    rw [if_neg c0, if_neg c0]
    by_cases c1 : room t a < c
    · rw [if_pos c1, if_pos c1]; exact ⟨h.up, rfl, rfl⟩
    · rw [if_neg c1] at hk
      rw [if_neg c1, if_neg c1]
      exact ⟨Ply_put h hk (by omega), rfl, rfl⟩
theorem Ply_take {r : lombardref16_Table} {t : limit_Table} {n : Nat} {a : api_Asset} {c : Int} (h : Ply r t n) (hn : n ≤ 1000) (ha : InK .i64 a.Issuer) (hb : a.ISIN.size ≤ maxLen) : Ply (takeR r t a c).1 (takeT t a c).2 (n + 1) ∧ (takeR r t a c).2 = (takeT t a c).1 ∧ (takeT t a c).2.need = t.need := by
  have hk := Kt_take (c := c) h.kt hn ha hb
  have b2 := h.kt.tok.assets a.ISIN; have b4 := h.kt.tok.asset
  unfold takeR
  unfold takeT at hk ⊢
  by_cases c0 : c < 0
  · rw [if_pos c0, if_pos c0]; exact ⟨h.up, rfl, rfl⟩
  · rw [if_neg c0] at hk
    rw [if_neg c0, if_neg c0]
    by_cases c1 : t.assets.getD a.ISIN 0 < c
    · rw [if_pos c1, if_pos c1]; exact ⟨h.up, rfl, rfl⟩
    · rw [if_neg c1] at hk
      rw [if_neg c1, if_neg c1]
      by_cases c2 : t.issuers.getD a.Issuer 0 < c
      · rw [if_pos c2, if_pos c2]; exact ⟨h.up, rfl, rfl⟩
      · rw [if_neg c2] at hk
        rw [if_neg c2, if_neg c2]
        have e : (0 : Int) - c = -c := by omega
        rw [e]
        exact ⟨Ply_put h hk (by omega), rfl, rfl⟩

theorem posI_len {t : limit_Table} {n : Nat} (h : Kt t n) : (posI t.issuers).length ≤ n := by
  have h1 := h.li
  have l1 : (sortI t.issuers.keys).length ≤ n := by rw [sortI_len]; simp [GM.keys]; omega
  have := List.length_filter_le (fun k => decide (0 < t.issuers.getD k 0)) (sortI t.issuers.keys)
  unfold posI; omega
theorem posS_len {t : limit_Table} {n : Nat} (h : Kt t n) : (posS t.assets).length ≤ n := by
  have h1 := h.la
  have l1 : (sortS t.assets.keys).length ≤ n := by rw [sortS_len]; simp [GM.keys]; omega
  have := List.length_filter_le (fun k => decide (0 < t.assets.getD k 0)) (sortS t.assets.keys)
  unfold posS; omega

theorem usesI_loop {r : lombardref16_Table} {t : limit_Table} {n : Nat} {Q : List lombardref16_Use → Prop} (h : Ply r t n) (hn : n ≤ 1000) (q : Q ((posI t.issuers).map fun k => toldU (useI t k))) :
    ∀ (k : Nat) (hv : Bool) (last : Int), ((r.L.map (·.Issuer)).filter fun x => decide (okk (fun a b : Int => a < b) hv last x)).length ≤ k → _lombardref16_Table_Uses_L0 r Q last hv ((toldTo (fun a b : Int => a < b) (posI t.issuers) hv last).map fun k => toldU (useI t k)) := by
  have hl := h.len
  have hpl := posI_len h.kt
  have hP := posI_lt h.kt.i
  have hPl : ∀ k ∈ posI t.issuers, k ∈ r.L.map (·.Issuer) := fun k hk => by
    have h1 := (mem_posI (m := t.issuers)).1 hk
    rcases Classical.em (k ∈ r.L.map (·.Issuer)) with hm | hm
    · exact hm
    · have := ofI_none hm; rw [h.i] at this; omega
  intro k
  induction k with
  | zero =>
    intro hv last hk
    refine _lombardref16_Table_Uses_l0 ?_
    unfold _lombardref16_Table_Uses_w0
    refine nextI_l (by omega) _ 0 (0, false) rfl ?_
    have sp := next_spec ordI (hv := hv) (last := last) (r.L.map (·.Issuer)) (0, false) (fun h => by cases h)
    rw [List.drop_zero]
    generalize nextP (fun a b : Int => a < b) hv last (r.L.map (·.Issuer)) (0, false) = R at sp ⊢
    cases hR : R.2 with
    | false =>
      refine Br.t rfl (Lf.i ?_)
      rw [told_end hPl (sp.1 hR).2]; exact q
    | true =>
      have s2 := sp.2 hR
      have := List.length_eq_zero_iff.1 (Nat.le_zero.1 hk)
      have hm : R.1 ∈ (r.L.map (·.Issuer)).filter fun x => decide (okk (fun a b : Int => a < b) hv last x) := List.mem_filter.2 ⟨s2.2.1.resolve_right (by simp), decide_eq_true s2.1⟩
      rw [this] at hm; cases hm
  | succ k ih =>
    intro hv last hk
    refine _lombardref16_Table_Uses_l0 ?_
    unfold _lombardref16_Table_Uses_w0
    refine nextI_l (by omega) _ 0 (0, false) rfl ?_
    have sp := next_spec ordI (hv := hv) (last := last) (r.L.map (·.Issuer)) (0, false) (fun h => by cases h)
    rw [List.drop_zero]
    generalize nextP (fun a b : Int => a < b) hv last (r.L.map (·.Issuer)) (0, false) = R at sp ⊢
    cases hR : R.2 with
    | false =>
      refine Br.t rfl (Lf.i ?_)
      rw [told_end hPl (sp.1 hR).2]; exact q
    | true =>
      have s2 := sp.2 hR
      have hbl := s2.2.1.resolve_right (by simp)
      have hless := okk_less ordI s2.1 hbl
      have : DecidablePred (fun x => x ∈ posI t.issuers) := fun _ => Classical.propDecidable _
      have st := told_step ordI hP hPl s2.1 s2.2.2.1
      have nx := ih true R.1 (by omega)
      rw [st, List.map_append] at nx
      have o := ROfI_r (k := R.1) h.bd (by omega)
      rw [h.i] at o
      refine Br.f rfl ⟨_, o, Br.i (fun c => ⟨_, o, App2.i (app40 ?_) ?_⟩) (fun c => ?_)⟩
      · have := List.length_filter_le (fun k => decide (¬ okk (fun a b : Int => a < b) hv last k)) (posI t.issuers)
        simp only [toldTo, List.length_map, List.length_cons, List.length_nil]; omega
      · rw [if_pos ((mem_posI (m := t.issuers)).2 c)] at nx
        rw [h.issuer]
        exact nx
      · rw [if_neg (fun e => c ((mem_posI (m := t.issuers)).1 e))] at nx
        simp only [List.map_nil, List.append_nil] at nx
        exact nx

theorem usesA_loop {r : lombardref16_Table} {t : limit_Table} {n : Nat} {Q : List lombardref16_Use → Prop} (h : Ply r t n) (hn : n ≤ 1000) (q : Q ((posS t.assets).map fun k => toldU (useA t k))) :
    ∀ (k : Nat) (hv : Bool) (last : ByteArray), ((r.L.map (·.ISIN)).filter fun x => decide (okk bLt hv last x)).length ≤ k → _lombardref16_Table_assets_L0 r Q last hv ((toldTo bLt (posS t.assets) hv last).map fun k => toldU (useA t k)) := by
  have hl := h.len
  have hpl := posS_len h.kt
  have hP := posS_lt h.kt.a
  have hPl : ∀ k ∈ posS t.assets, k ∈ r.L.map (·.ISIN) := fun k hk => by
    have h1 := (mem_posS (m := t.assets)).1 hk
    rcases Classical.em (k ∈ r.L.map (·.ISIN)) with hm | hm
    · exact hm
    · have := ofA_none hm; rw [h.a] at this; omega
  intro k
  induction k with
  | zero =>
    intro hv last hk
    refine _lombardref16_Table_assets_l0 ?_
    unfold _lombardref16_Table_assets_w0
    refine nextA_l (by omega) _ 0 ((⟨#[]⟩ : ByteArray), false) rfl ?_
    have sp := next_spec ordS (hv := hv) (last := last) (r.L.map (·.ISIN)) ((⟨#[]⟩ : ByteArray), false) (fun h => by cases h)
    rw [List.drop_zero]
    generalize nextP bLt hv last (r.L.map (·.ISIN)) ((⟨#[]⟩ : ByteArray), false) = R at sp ⊢
    cases hR : R.2 with
    | false =>
      refine Br.t rfl (Lf.i ?_)
      rw [told_end hPl (sp.1 hR).2]; exact q
    | true =>
      have s2 := sp.2 hR
      have := List.length_eq_zero_iff.1 (Nat.le_zero.1 hk)
      have hm : R.1 ∈ (r.L.map (·.ISIN)).filter fun x => decide (okk bLt hv last x) := List.mem_filter.2 ⟨s2.2.1.resolve_right (by simp), decide_eq_true s2.1⟩
      rw [this] at hm; cases hm
  | succ k ih =>
    intro hv last hk
    refine _lombardref16_Table_assets_l0 ?_
    unfold _lombardref16_Table_assets_w0
    refine nextA_l (by omega) _ 0 ((⟨#[]⟩ : ByteArray), false) rfl ?_
    have sp := next_spec ordS (hv := hv) (last := last) (r.L.map (·.ISIN)) ((⟨#[]⟩ : ByteArray), false) (fun h => by cases h)
    rw [List.drop_zero]
    generalize nextP bLt hv last (r.L.map (·.ISIN)) ((⟨#[]⟩ : ByteArray), false) = R at sp ⊢
    cases hR : R.2 with
    | false =>
      refine Br.t rfl (Lf.i ?_)
      rw [told_end hPl (sp.1 hR).2]; exact q
    | true =>
      have s2 := sp.2 hR
      have hbl := s2.2.1.resolve_right (by simp)
      have hless := okk_less ordS s2.1 hbl
      have : DecidablePred (fun x => x ∈ posS t.assets) := fun _ => Classical.propDecidable _
      have st := told_step ordS hP hPl s2.1 s2.2.2.1
      have nx := ih true R.1 (by omega)
      rw [st, List.map_append] at nx
      have o := ROfA_r (k := R.1) h.bd (by omega)
      rw [h.a] at o
      refine Br.f rfl ⟨_, o, Br.i (fun c => ⟨_, o, App2.i (app40 ?_) ?_⟩) (fun c => ?_)⟩
      · have := List.length_filter_le (fun k => decide (¬ okk bLt hv last k)) (posS t.assets)
        simp only [toldTo, List.length_map, List.length_cons, List.length_nil]; omega
      · rw [if_pos ((mem_posS (m := t.assets)).2 c)] at nx
        rw [h.asset]
        exact nx
      · rw [if_neg (fun e => c ((mem_posS (m := t.assets)).1 e))] at nx
        simp only [List.map_nil, List.append_nil] at nx
        exact nx

theorem RAssets_r {r : lombardref16_Table} {t : limit_Table} {n : Nat} (h : Ply r t n) (hn : n ≤ 1000) : _lombardref16_Table_assets_r r ((posS t.assets).map fun k => toldU (useA t k)) := by
  refine _lombardref16_Table_assets_of ?_
  unfold _lombardref16_Table_assets_w
  have := usesA_loop (Q := fun y => _lombardref16_Table_assets_e (fun v => v = (posS t.assets).map fun k => toldU (useA t k)) y) h hn (Rt.i rfl) _ false (⟨#[]⟩ : ByteArray) (Nat.le_refl _)
  rw [told_start] at this
  exact this
theorem RUses_r {r : lombardref16_Table} {t : limit_Table} {n : Nat} (h : Ply r t n) (hn : n ≤ 1000) : _lombardref16_Table_Uses_r r ((usesT t).map toldU) := by
  have l1 := posI_len h.kt; have l2 := posS_len h.kt
  refine _lombardref16_Table_Uses_of ?_
  unfold _lombardref16_Table_Uses_w
  have := usesI_loop (Q := fun y => ∃ r2 : List lombardref16_Use, (_lombardref16_Table_assets_r r r2) ∧ (App2 40 lombardref16_Use.enc y r2 (_lombardref16_Table_Uses_e (fun v => v = (usesT t).map toldU) (y ++ r2)))) h hn
    ⟨_, RAssets_r h hn, App2.i (app40 (by simp only [List.length_map]; omega)) (Rt.i (by rw [usesT_eq, List.map_append, List.map_map, List.map_map]; rfl))⟩ _ false 0 (Nat.le_refl _)
  rw [told_start] at this
  exact this

theorem RNew1 {b : api_Basket} {need : Int} (h : newOk b need) : lombardref16_New_r b need (⟨need, (newT b need).issuer, (newT b need).asset, []⟩, 0) := by
  obtain ⟨h1, h2, h3, h4, h5, h6⟩ := h
  refine lombardref16_New_of ?_
  unfold lombardref16_New_w
  exact Br.neg (by omega) (Br.neg (by omega) (Br.neg (by omega) (Br.neg (by omega) (Br.neg (by omega) (Br.neg (by omega) ⟨_, RMulDiv_r (iok (by omega)) (iok (by omega)) (by decide), _, RMulDiv_r (iok (by omega)) (iok (by omega)) (by decide), Rt.i rfl⟩)))))
theorem RNew0 {b : api_Basket} {need : Int} (h : ¬ newOk b need) : lombardref16_New_r b need (⟨0, 0, 0, []⟩, 1) := by
  refine lombardref16_New_of ?_
  unfold lombardref16_New_w
  refine Br.i (fun c => Rt.i rfl) (fun c1 => Br.i (fun c => Rt.i rfl) (fun c2 => Br.i (fun c => Rt.i rfl) (fun c3 => Br.i (fun c => Rt.i rfl) (fun c4 => Br.i (fun c => Rt.i rfl) (fun c5 => Br.i (fun c => Rt.i rfl) (fun c6 => absurd ?_ h))))))
  unfold newOk; omega

theorem plays_j {need : Int} {a2 : List lombardlaw16_Act} {a : api_Asset} {Q0 Q1 : Unit → Prop} {s : Nat} {x : lombardlaw16_Act} {r : lombardref16_Table} {t : limit_Table} {s1 s2 s3 : Int} {s4 : List lombardref16_Part} {g v : Int} (hgv : g = v) (hs : s + 1 ≤ 60) (h : Ply r t (s + 1)) (hn : t.need = need)
    (nx : lombardlaw16_LimitPlays_L0b need a2 a Q0 Q1 ((s : Int) + 1) r.Need r.Issuer r.Asset r.L t.need t.issuer t.asset t.sum t.issuers t.assets) :
    lombardlaw16_LimitPlays_j2 need a2 (s : Int) a s1 s2 s3 s4 x (lombardlaw16_LimitPlays_L0b need a2 a Q0 Q1) Q0 Q1 (g, v, r.Need, r.Issuer, r.Asset, r.L, t.need, t.issuer, t.asset, t.sum, t.issuers, t.assets) := by
  have hl := h.len
  have rs : _lombardref16_Table_Sum_r r t.sum := by rw [← h.s]; exact RSum_r h.bd (by omega)
  have b1 := h.kt.tok.need; have b2 := h.kt.tok.sum
  have rest : ∀ o, o = openT t → lombardlaw16_LimitPlays_j3 need a2 (s : Int) (g, v, r.Need, r.Issuer, r.Asset, r.L, t.need, t.issuer, t.asset, t.sum, t.issuers, t.assets) a x (lombardlaw16_LimitPlays_L0b need a2 a Q0 Q1) Q0 Q1 o := by
    intro o ho
    unfold lombardlaw16_LimitPlays_j3
    refine Jn.i (Br.f (by simp [hgv]) ⟨room t x.Asset, TRoom_r (t := t) h.kt.tok, room t x.Asset, RRoom_r (r := r) h (by omega), Br.f (by simp) ⟨room t a, TRoom_r (t := t) h.kt.tok, room t a, RRoom_r (r := r) h (by omega), Br.f (by simp) ⟨t.sum, TSum_r (t := t), t.sum, rs, Br.f (by simp) ⟨openT t, TOpen_r (t := t) h.kt.tok, Br.f (by simp [ho]) ⟨usesT t, Uses_r (t := t) h.kt (by omega), _, told_r (usesT_len3 h.kt (by omega)), _, RUses_r (r := r) h (by omega), true, Same_r (by simpa using usesT_len3 h.kt (by omega)), Br.f rfl (Num.n (by omega) nx)⟩⟩⟩⟩⟩)
  unfold lombardlaw16_LimitPlays_j2
  refine Jn.i ⟨t.sum, rs, Num.n (by omega) (Br.i (fun c => rest 0 ?_) (fun c => rest _ ?_))⟩
  · unfold openT; omega
  · unfold openT; omega

theorem plays_loop {need : Int} {a2 : List lombardlaw16_Act} {a : api_Asset} {Q0 Q1 : Unit → Prop} (hk : ∀ x ∈ a2, InK .i64 x.Asset.Issuer ∧ x.Asset.ISIN.size ≤ maxLen) (q : Q0 ()) :
    ∀ (n s : Nat) (r : lombardref16_Table) (t : limit_Table), n + s = 60 → t.need = need → Ply r t s → lombardlaw16_LimitPlays_L0b need a2 a Q0 Q1 (s : Int) r.Need r.Issuer r.Asset r.L t.need t.issuer t.asset t.sum t.issuers t.assets := by
  intro n
  induction n with
  | zero =>
    intro s r t h _ _
    refine lombardlaw16_LimitPlays_l0b ?_
    unfold lombardlaw16_LimitPlays_w0b
    exact Br.i (fun _ => Br.neg (by omega) (Lf.i q)) (fun _ => Lf.i q)
  | succ n ih =>
    intro s r t h hn hp
    refine lombardlaw16_LimitPlays_l0b ?_
    unfold lombardlaw16_LimitPlays_w0b
    rw [lenM_eq]
    refine Br.i (fun c => ?_) (fun _ => Lf.i q)
    have hs : s < a2.length := by omega
    have hm := hk _ (List.getElem_mem hs)
    have g : a2[(s : Int).toNat]? = some a2[s] := by simp [hs]
    refine Br.pos (by omega) ⟨a2[s], Got.i ?_ (by omega) g⟩
    refine ⟨_, RAdd_r (r := r) hp (by omega), Br.i (fun _ => ⟨addT t a2[s].Asset a2[s].Cover, TAdd_r (t := t) hp.kt.tok, ?_⟩) (fun _ => ⟨_, RTake_r (r := r) hp (by omega), takeT t a2[s].Asset a2[s].Cover, TTake_r (t := t) hp.kt.tok, ?_⟩)⟩
    · obtain ⟨p1, p2, p3⟩ := Ply_add (c := a2[s].Cover) hp (by omega) hm.1 hm.2
      exact plays_j p2 (by omega) p1 (by rw [p3]; exact hn) (ih (s + 1) _ _ (by omega) (by rw [p3]; exact hn) p1)
    · obtain ⟨p1, p2, p3⟩ := Ply_take (c := a2[s].Cover) hp (by omega) hm.1 hm.2
      exact plays_j p2 (by omega) p1 (by rw [p3]; exact hn) (ih (s + 1) _ _ (by omega) (by rw [p3]; exact hn) p1)

theorem LimitPlays_r (b : api_Basket) (need : Int) (acts : List lombardlaw16_Act) (a : api_Asset) (hk : ∀ x ∈ acts, InK .i64 x.Asset.Issuer ∧ x.Asset.ISIN.size ≤ maxLen) : lombardlaw16_LimitPlays_r b need acts a true := by
  refine lombardlaw16_LimitPlays_of ?_
  unfold lombardlaw16_LimitPlays_w
  by_cases h : newOk b need
  · refine .inr ⟨_, New_r1 h, _, RNew1 h, Br.f rfl (Br.f rfl ?_)⟩
    exact plays_loop hk ⟨_, awake_r, Rt.i rfl⟩ 60 0 ⟨need, (newT b need).issuer, (newT b need).asset, []⟩ (newT b need) rfl rfl ⟨Kt_new h, rfl, rfl, fun k => rfl, fun k => rfl, rfl, Nat.le_refl _, fun p hp => by cases hp⟩
  · refine .inl ⟨_, New_r0 h, _, RNew0 h, Br.f rfl (Br.f rfl ?_)⟩
    refine lombardlaw16_LimitPlays_l0 ?_
    unfold lombardlaw16_LimitPlays_w0
    exact Br.i (fun _ => Lf.i ⟨_, awake_r, Rt.i rfl⟩) (fun _ => Lf.i ⟨_, awake_r, Rt.i rfl⟩)
end Go.Proofs.Ytmopmbehbehilaa.Pure
