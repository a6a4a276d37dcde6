/- limit's Take, told, Same; what Uses tells hangs on what is under each key alone. -/
import Derived.Test.YtmopmbehbehilaaGreatTLimU
set_option linter.unusedVariables false
set_option linter.unusedSimpArgs false
namespace Go.Proofs.YtmopmbehbehilaaGreat.Pure
open Go Go.Ab Go.Proofs.YtmopmbehbehilaaGreat.R Go.Sort

/-! told. -/
def toldU (u : limit_Use) : lombardref16_Use := ⟨u.Issuer, u.ISIN, u.Cover, u.Limit⟩
theorem told_l {r : List limit_Use} {Q : List lombardref16_Use → Prop} : ∀ (n s : Nat) (acc : List lombardref16_Use), n + s = r.length → acc.length + n ≤ 3000000 → r.length ≤ 3000000 → Q (acc ++ (r.drop s).map toldU) → lombardlaw16_told_L0 r Q (s : Int) acc
  | 0, s, acc, h, _, _, q => by
    refine lombardlaw16_told_l0 ?_
    unfold lombardlaw16_told_w0
    rw [lenM_eq]
    refine Br.neg (by omega) (Lf.i ?_)
    rw [List.drop_of_length_le (by omega)] at q
    simpa using q
  | n + 1, s, acc, h, ha, hr, q => by
    have hs : s < r.length := by omega
    refine lombardlaw16_told_l0 ?_
    unfold lombardlaw16_told_w0
    rw [lenM_eq]
    rw [List.drop_eq_getElem_cons hs, List.map_cons] at q
    have g : r[(s : Int).toNat]? = some r[s] := by simp [hs]
    refine Br.pos (by omega) ⟨r[s], Got.i (Got.i (Got.i (Got.i (App2.i (app40 (by simp; omega)) (Num.n (by omega) ?_)) (by omega) g) (by omega) g) (by omega) g) (by omega) g⟩
    exact told_l n (s + 1) _ (by omega) (by simp; omega) hr (by simpa [toldU] using q)
theorem told_r {r : List limit_Use} (h : r.length ≤ 3000000) : lombardlaw16_told_r r (r.map toldU) := by
  refine lombardlaw16_told_of ?_
  unfold lombardlaw16_told_w
  exact told_l _ 0 [] rfl (by simpa using h) h (Rt.i (by simp))

/-! Same. -/
theorem same_l {r : List lombardref16_Use} {Q0 Q1 : Unit → Prop} (hr : r.length ≤ 3000000) (q : Q1 ()) : ∀ (n s : Nat), n + s = r.length → lombardref16_Same_L0 r r Q0 Q1 (s : Int)
  | 0, s, h => by
    refine lombardref16_Same_l0 ?_
    unfold lombardref16_Same_w0
    rw [lenM_eq]
    exact Br.neg (by omega) (Lf.i q)
  | n + 1, s, h => by
    have hs : s < r.length := by omega
    refine lombardref16_Same_l0 ?_
    unfold lombardref16_Same_w0
    rw [lenM_eq]
    have g : r[(s : Int).toNat]? = some r[s] := by simp [hs]
    refine Br.pos (by omega) ⟨r[s], Got.i ⟨r[s], Got.i (Br.f ?_ (Num.n (by omega) (same_l hr q n (s + 1) (by omega)))) (by omega) g⟩ (by omega) g⟩
    rw [strEq_true rfl]; simp
theorem Same_r {r : List lombardref16_Use} (h : r.length ≤ 3000000) : lombardref16_Same_r r r true := by
  refine lombardref16_Same_of ?_
  unfold lombardref16_Same_w
  exact Br.f (by simp) (same_l h (Rt.i rfl) _ 0 rfl)

/-! What Uses tells. -/
theorem ext_sorted {α : Type} {lt : α → α → Prop} (ir : ∀ a b, lt a b → ¬ lt b a) {l1 l2 : List α} (h1 : l1.Pairwise lt) (h2 : l2.Pairwise lt) (h : ∀ x, x ∈ l1 ↔ x ∈ l2) : l1 = l2 := by
  have n1 : l1.Nodup := h1.imp fun {a b} hab e => by subst e; exact ir a a hab hab
  have n2 : l2.Nodup := h2.imp fun {a b} hab e => by subst e; exact ir a a hab hab
  exact List.Perm.eq_of_pairwise (le := lt) (fun a b _ _ hab hba => absurd hba (ir a b hab)) h1 h2 ((List.perm_ext_iff_of_nodup n1 n2).2 h)

theorem sortI_lt {l : List Int} (h : l.Nodup) : (sortI l).Pairwise (· < ·) := by
  have hs : (sortI l).Pairwise fun a b => leI a b = true := List.pairwise_mergeSort (fun a b c h1 h2 => by simp only [leI, decide_eq_true_eq] at *; omega) (fun a b => by simp only [leI, Bool.or_eq_true, decide_eq_true_eq]; omega) l
  have hn : (sortI l).Nodup := (List.mergeSort_perm l leI).nodup_iff.2 h
  refine (hs.and hn).imp fun {a b} hab => ?_
  have := hab.1; have := hab.2
  simp only [leI, decide_eq_true_eq] at *
  omega
theorem mem_sortI {l : List Int} {x : Int} : x ∈ sortI l ↔ x ∈ l := (List.mergeSort_perm l leI).mem_iff

def bLt (x y : ByteArray) : Prop := x.data.toList < y.data.toList
theorem bLt_asymm (x y : ByteArray) (h : bLt x y) : ¬ bLt y x := fun h2 => List.lt_irrefl _ (List.lt_trans h h2)
theorem ba_ext {x y : ByteArray} (h : x.data.toList = y.data.toList) : x = y := by
  cases x; cases y; exact congrArg ByteArray.mk (Array.toList_inj.1 h)
theorem sortS_lt {l : List ByteArray} (h : l.Nodup) : (sortS l).Pairwise bLt := by
  unfold sortS
  have hm : (l.map fun b => b.data.toList).Nodup := List.Pairwise.map _ (fun a b hab e => hab (ba_ext e)) h
  have hs : ((l.map fun b => b.data.toList).mergeSort leB).Pairwise fun a b => leB a b = true := List.pairwise_mergeSort (fun a b c h1 h2 => by simp only [leB, decide_eq_true_eq] at *; exact List.le_trans h1 h2) (fun a b => by simp only [leB, Bool.or_eq_true, decide_eq_true_eq]; exact List.le_total a b) _
  have hn : ((l.map fun b => b.data.toList).mergeSort leB).Nodup := (List.mergeSort_perm _ leB).nodup_iff.2 hm
  refine List.Pairwise.map _ (fun a b hab => ?_) (hs.and hn)
  have h1 : a ≤ b := by simpa [leB] using hab.1
  show a < b
  by_cases hlt : a < b
  · exact hlt
  · exact absurd (List.le_antisymm h1 (List.not_lt.1 hlt)) hab.2
theorem mem_sortS {l : List ByteArray} {x : ByteArray} : x ∈ sortS l ↔ x ∈ l := by
  unfold sortS
  simp only [List.mem_map, (List.mergeSort_perm _ leB).mem_iff]
  constructor
  · rintro ⟨a, ⟨b, hb, rfl⟩, rfl⟩; exact hb
  · intro h; exact ⟨_, ⟨x, h, rfl⟩, rfl⟩

theorem mem_of_getL {κ ν : Type} [DecidableEq κ] {k : κ} {v : ν} : ∀ {l : List (κ × Nat × ν)}, getL k l = some v → k ∈ l.map (·.1)
  | [], h => by simp [getL] at h
  | x :: l, h => by
    simp only [getL] at h
    split at h
    · rename_i e; simp [e]
    · exact List.mem_cons_of_mem _ (mem_of_getL h)
theorem mem_of_pos {κ : Type} [DecidableEq κ] {m : GM κ Int} {k : κ} (h : 0 < m.getD k 0) : k ∈ m.keys := by
  unfold GM.getD at h
  cases hg : m.get? k with
  | none => rw [hg] at h; simp at h
  | some v => exact mem_of_getL hg

/-- The keys that have something under them, in order. -/
def posI (m : GM Int Int) : List Int := (sortI m.keys).filter fun k => decide (0 < m.getD k 0)
def posS (m : GM ByteArray Int) : List ByteArray := (sortS m.keys).filter fun k => decide (0 < m.getD k 0)
theorem posI_lt {m : GM Int Int} {kl : Int → Prop} (h : m.ok kl) : (posI m).Pairwise (· < ·) := (sortI_lt h.apart).filter _
theorem posS_lt {m : GM ByteArray Int} {kl : ByteArray → Prop} (h : m.ok kl) : (posS m).Pairwise bLt := (sortS_lt h.apart).filter _
theorem mem_posI {m : GM Int Int} {k : Int} : k ∈ posI m ↔ 0 < m.getD k 0 := by
  unfold posI; rw [List.mem_filter, mem_sortI, decide_eq_true_eq]
  exact ⟨fun h => h.2, fun h => ⟨mem_of_pos h, h⟩⟩
theorem mem_posS {m : GM ByteArray Int} {k : ByteArray} : k ∈ posS m ↔ 0 < m.getD k 0 := by
  unfold posS; rw [List.mem_filter, mem_sortS, decide_eq_true_eq]
  exact ⟨fun h => h.2, fun h => ⟨mem_of_pos h, h⟩⟩
theorem usesT_eq (t : limit_Table) : usesT t = (posI t.issuers).map (useI t) ++ (posS t.assets).map (useA t) := rfl
theorem usesT_ext {t t' : limit_Table} {n n' : Nat} (h : Kt t n) (h' : Kt t' n') (e1 : t.issuer = t'.issuer) (e2 : t.asset = t'.asset) (hi : ∀ k, t.issuers.getD k 0 = t'.issuers.getD k 0) (ha : ∀ k, t.assets.getD k 0 = t'.assets.getD k 0) : usesT t = usesT t' := by
  have p1 : posI t.issuers = posI t'.issuers := ext_sorted (fun a b (h1 : a < b) (h2 : b < a) => absurd h1 (by omega)) (posI_lt h.i) (posI_lt h'.i) fun k => by rw [mem_posI, mem_posI, hi]
  have p2 : posS t.assets = posS t'.assets := ext_sorted bLt_asymm (posS_lt h.a) (posS_lt h'.a) fun k => by rw [mem_posS, mem_posS, ha]
  rw [usesT_eq, usesT_eq, p1, p2]
  congr 1
  · exact List.map_congr_left fun k _ => by simp only [useI, hi, e1]
  · exact List.map_congr_left fun k _ => by simp only [useA, ha, e2]
end Go.Proofs.YtmopmbehbehilaaGreat.Pure
