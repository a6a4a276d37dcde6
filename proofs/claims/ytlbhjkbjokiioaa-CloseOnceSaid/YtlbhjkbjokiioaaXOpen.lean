-- a shortened text: what this claim does not name is left out (wip/xprint/prune.py of this repo)
import Derived.Deep.Slices
import Derived.ChangeArms
import Derived.SizedLaws
import Derived.ChangeOld
import Derived.Test.YtlbhjkbjokiioaaWWords
namespace Go.Proofs.Ytlbhjkbjokiioaa.XWords
open Go Go.Proofs.YtlbhjkbjokiioaaW.PrintWords
def Opens (P : Program) {α : Type} (k : Kd α) (t : TypeId) (B : α → Prop) : Prop :=
 ∀ {H : Type} (enc : TypeId × Value → H) (W : World) (base : Nat) (spare : Nat → Bool) (held : Bool) (fuel : Nat) (cs : List Value) (d : DataW H) (p : List MemPlace),
  DataW.trod enc P W base spare held fuel t cs = some (d, p) → (∀ z ∈ DataW.weights P t d, z ≤ reachBytes) → ∃ x, k.K W x cs ∧ B x
theorem opens_int {P : Program} {t : TypeId} {ik : IntKind} (hu : P.underlying t = some (.int ik)) : Opens P (Kd.int ik) t (fun n => (Lit.int ik n).wf = true) := by
 intro H enc W base spare held fuel cs d p h _
 obtain ⟨n, rfl, _, hw⟩ := DataW.trod_int hu h
 exact ⟨n, rfl, hw⟩
theorem opens_string {P : Program} {t : TypeId} (hu : P.underlying t = some .string) : Opens P Kd.string t (fun s => s.size ≤ 140737488351232) := by
 intro H enc W base spare held fuel cs d p h hz
 obtain ⟨s, rfl, hx, _⟩ := DataW.trod_string hu h
 refine ⟨s, rfl, ?_⟩
 obtain ⟨rfl, _⟩ := Prod.mk.inj hx
 have h2 : s.size ≤ reachBytes := by
  have := hz s.data.toList.length (by simp [DataW.weights])
  simpa using this
 exact h2
theorem list_of {α : Type} (Q : Nat → α → Prop) : ∀ n, (∀ i, i < n → ∃ x, Q i x) → ∃ l : List α, l.length = n ∧ ∀ i x, l[i]? = some x → Q i x
 | 0, _ => ⟨[], rfl, fun i x h => by simp at h⟩
 | n + 1, h => by
  obtain ⟨l, hl, hq⟩ := list_of Q n (fun i hi => h i (by omega))
  obtain ⟨x, hx⟩ := h n (by omega)
  refine ⟨l ++ [x], by simp [hl], fun i y hy => ?_⟩
  rw [List.getElem?_append] at hy
  split at hy
  · exact hq i y hy
  · have : i - l.length = 0 := by
     rcases Nat.eq_zero_or_pos (i - l.length) with z | z
     · exact z
     · rw [List.getElem?_eq_none (by simp; omega)] at hy; cases hy
    rw [this] at hy
    simp at hy
    subst hy
    have : i = n := by omega
    subst this
    exact hx
theorem weights_all {H : Type} {P : Program} {e : TypeId} : ∀ {ds : List (DataW H)} {d : DataW H}, d ∈ ds → ∀ z ∈ DataW.weights P e d, z ∈ DataW.weightsAll P e ds
 | [], _, h, _, _ => by cases h
 | x :: ds, d, h, z, hz => by
  rcases List.mem_cons.1 h with rfl | h
  · simp only [DataW.weightsAll]; exact List.mem_append_left _ hz
  · simp only [DataW.weightsAll]; exact List.mem_append_right _ (weights_all h z hz)
theorem opens_slice {P : Program} {α : Type} {k : Kd α} {t e : TypeId} {B : α → Prop} {bytes : Nat} (hu : P.underlying t = some (.slice e)) (hk : Opens P k e B) (hsz : k.sz = P.cellsOf e) (hb : P.bytesOf e = bytes) :
 Opens P (Kd.slice e k) t (fun l => l.length * bytes ≤ 140737488351232 ∧ ∀ x ∈ l, B x) := by
 intro H enc W base spare held fuel cs d p h hz
 rcases Go.Deep.open_slice hu h with ⟨rfl, _⟩ | ⟨a, len, cap, m, n, D, Pl, rfl, _, hl, hm, hmm, hx, hi⟩
 · exact ⟨[], ⟨none, 0, rfl, Nat.le_refl _, rfl, by simp, fun h => absurd h (by simp)⟩, by simp, by simp⟩
 · have hd : d = .slice ((List.range len).map D) ((List.range (m - len)).map fun j => D (len + j)) := (Prod.mk.inj hx).1
   have lm : len ≤ m := by rw [hmm]; split <;> omega
   have el : ∀ i, i < len → ∃ x, ∃ cs', W.cells? base (a.add (i * P.cellsOf e)) (P.cellsOf e) = some cs' ∧ k.K W x cs' ∧ B x := by
    intro i hil
    obtain ⟨cs', hc, ht⟩ := hi i (by omega)
    obtain ⟨x, hK, hB⟩ := hk enc W base spare held n cs' (D i) (Pl i) ht (fun z hzz => hz z (by
     rw [hd]; simp only [DataW.weights, hu]
     exact List.mem_cons_of_mem _ (List.mem_append_left _ (weights_all (List.mem_map.2 ⟨i, by simpa using hil, rfl⟩) z hzz))))
    exact ⟨x, cs', hc, hK, hB⟩
   obtain ⟨l, hll, hq⟩ := list_of _ len el
   subst hll
   refine ⟨l, ⟨some a, cap, rfl, hl, rfl, by unfold maxLen at hm; omega, fun _ => ⟨a, rfl, fun j q hj => ?_⟩⟩, ?_, ?_⟩
   · obtain ⟨cs', hc, hK, _⟩ := hq j q hj
     obtain ⟨_, hcl, hat⟩ := World.cells?_some hc
     refine ⟨cs', k.K_len hK, hK, fun i u hu' => ?_⟩
     have hil : i < P.cellsOf e := by rw [← hcl]; exact (List.getElem?_eq_some_iff.1 hu').1
     have := hat i hil
     rw [hu', ← hsz, Go.Deep.add_add] at this
     exact this
   · have := hz ((l.length + (m - l.length)) * P.bytesOf e) (by rw [hd]; simp [DataW.weights, hu])
     rw [hb] at this
     have h2 : l.length * bytes ≤ (l.length + (m - l.length)) * bytes := Nat.mul_le_mul_right _ (by omega)
     exact Nat.le_trans h2 this
   · intro x hx'
     obtain ⟨i, hi', rfl⟩ := List.mem_iff_getElem.1 hx'
     obtain ⟨_, _, _, hB⟩ := hq i _ (List.getElem?_eq_getElem hi')
     exact hB
def OpensL (P : Program) {α : Type} (k : Kd α) (ts : List TypeId) (B : α → Prop) : Prop :=
 ∀ {H : Type} (enc : TypeId × Value → H) (W : World) (base : Nat) (spare : Nat → Bool) (held : Bool) (fuel : Nat) (cs : List Value) (xs : List (DataW H × List MemPlace)),
  cs.length = (ts.map P.cellsOf).sum → xs.length = ts.length →
  (∀ (i : Nat) (t : TypeId), ts[i]? = some t → DataW.trod enc P W base spare held fuel t ((cs.drop ((ts.take i).map P.cellsOf).sum).take (P.cellsOf t)) = xs[i]?) →
  (∀ z ∈ DataW.weightsEach P ts (xs.map (·.1)), z ≤ reachBytes) → ∃ x, k.K W x cs ∧ B x
theorem opensL_one {P : Program} {α : Type} {k : Kd α} {t : TypeId} {B : α → Prop} (h : Opens P k t B) : OpensL P k [t] B := by
 intro H enc W base spare held fuel cs xs hl hx ht hz
 obtain ⟨x, rfl⟩ : ∃ x, xs = [x] := by
  match xs, hx with
  | [x], _ => exact ⟨x, rfl⟩
 have h0 := ht 0 t rfl
 simp at hl
 simp only [List.take_zero, List.map_nil, List.sum_nil, List.drop_zero, List.getElem?_cons_zero] at h0
 rw [List.take_of_length_le (by omega)] at h0
 exact h enc W base spare held fuel cs x.1 x.2 h0 (fun z hzz => hz z (DataW.weights_mem_each (j := 0) rfl rfl z hzz))
theorem opensL_cons {P : Program} {α β : Type} {k : Kd α} {k2 : Kd β} {t : TypeId} {ts : List TypeId} {B : α → Prop} {B2 : β → Prop} (h : Opens P k t B) (h2 : OpensL P k2 ts B2) : OpensL P (Kd.pair k k2) (t :: ts) (fun x => B x.1 ∧ B2 x.2) := by
 intro H enc W base spare held fuel cs xs hl hx ht hz
 obtain ⟨x, xs, rfl⟩ : ∃ x ys, xs = x :: ys := by
  match xs, hx with
  | x :: ys, _ => exact ⟨x, ys, rfl⟩
 simp only [List.map_cons, List.sum_cons] at hl
 have h0 := ht 0 t rfl
 simp only [List.take_zero, List.map_nil, List.sum_nil, List.drop_zero, List.getElem?_cons_zero] at h0
 obtain ⟨a, ha, hB⟩ := h enc W base spare held fuel _ x.1 x.2 h0 (fun z hzz => hz z (DataW.weights_mem_each (j := 0) rfl rfl z hzz))
 obtain ⟨b, hb, hB2⟩ := h2 enc W base spare held fuel (cs.drop (P.cellsOf t)) xs (by rw [List.length_drop]; omega) (by simpa using hx) (fun i u hi => by
  have := ht (i + 1) u hi
  simp only [List.take_succ_cons, List.map_cons, List.sum_cons, List.getElem?_cons_succ] at this
  rw [List.drop_drop]
  exact this) (fun z hzz => hz z (by simp only [List.map_cons, DataW.weightsEach]; exact List.mem_append_right _ hzz))
 exact ⟨(a, b), ⟨cs.take (P.cellsOf t), cs.drop (P.cellsOf t), (List.take_append_drop _ _).symm, ha, hb⟩, hB, hB2⟩
theorem opens_struct {P : Program} {α β : Type} {k : Kd α} {t : TypeId} {fs : Array Field} {ts : List TypeId} {B : α → Prop} {f : β → α} (g : α → β) (hfg : ∀ x, f (g x) = x) (hu : P.underlying t = some (.struct fs)) (hts : fs.toList.map (·.type) = ts)
 (hoff : (List.range fs.size).all (fun i => (fs[i]?).all fun x => x.offset == ((ts.take i).map P.cellsOf).sum) = true) (hcells : P.cellsOf t = (ts.map P.cellsOf).sum) (h : OpensL P k ts B) : Opens P (Kd.iso k f) t (fun y => B (f y)) := by
 intro H enc W base spare held fuel cs d p ht hz
 obtain ⟨xs, n, _, hx, hl, hxl, hg⟩ := DataW.trod_struct hu ht
 obtain ⟨rfl, _⟩ := Prod.mk.inj hx
 have hlen : ts.length = fs.size := by rw [← hts]; simp
 obtain ⟨x, hK, hB⟩ := h enc W base spare held n cs xs (by rw [hl, hcells]) (by rw [hxl, hlen]) (fun i u hi => by
  rw [← hts, List.getElem?_map] at hi
  obtain ⟨fl, hf, rfl⟩ := Option.map_eq_some_iff.1 hi
  have hf2 : fs[i]? = some fl := by simpa using hf
  have hi2 : i < fs.size := (Array.getElem?_eq_some_iff.1 hf2).1
  have ho := List.all_eq_true.1 hoff i (by simpa using hi2)
  rw [hf2] at ho
  simp only [Option.all_some, beq_iff_eq] at ho
  rw [← ho]
  exact hg i fl hf2) (fun z hzz => hz z (by simp only [DataW.weights, hu, hts]; exact hzz))
 refine ⟨g x, ?_, ?_⟩
 · show k.K W (f (g x)) cs
   rw [hfg]; exact hK
 · show B (f (g x))
   rw [hfg]; exact hB
end Go.Proofs.Ytlbhjkbjokiioaa.XWords
