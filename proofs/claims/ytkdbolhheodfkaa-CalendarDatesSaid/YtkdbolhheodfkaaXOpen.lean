-- a shortened text: what this claim does not name is left out (wip/xprint/prune.py of this repo)
import Derived.Deep.Slices
import Derived.ChangeArms
import Derived.SizedLaws
import Derived.ChangeOld
import Derived.Test.YtkdbolhheodfkaaWWords
namespace Go.Proofs.Ytkdbolhheodfkaa.XWords
open Go Go.Proofs.YtkdbolhheodfkaaW.PrintWords
def Opens (P : Program) {α : Type} (k : Kd α) (t : TypeId) (B : α → Prop) : Prop :=
  ∀ {H : Type} (enc : TypeId × Value → H) (W : World) (base : Nat) (spare : Nat → Bool) (held : Bool) (fuel : Nat) (cs : List Value) (d : DataW H) (p : List MemPlace),
    DataW.trod enc P W base spare held fuel t cs = some (d, p) → (∀ z ∈ DataW.weights P t d, z ≤ reachBytes) → ∃ x, k.K W x cs ∧ B x
theorem opens_int {P : Program} {t : TypeId} {ik : IntKind} (hu : P.underlying t = some (.int ik)) : Opens P (Kd.int ik) t (fun n => (Lit.int ik n).wf = true) := by
  intro H enc W base spare held fuel cs d p h _
  obtain ⟨n, rfl, _, hw⟩ := DataW.trod_int hu h
  exact ⟨n, rfl, hw⟩
def OpensL (P : Program) {α : Type} (k : Kd α) (ts : List TypeId) (B : α → Prop) : Prop :=
  ∀ {H : Type} (enc : TypeId × Value → H) (W : World) (base : Nat) (spare : Nat → Bool) (held : Bool) (fuel : Nat) (cs : List Value) (xs : List (DataW H × List MemPlace)),
    cs.length = (ts.map P.cellsOf).sum → xs.length = ts.length →
    (∀ (i : Nat) (t : TypeId), ts[i]? = some t → DataW.trod enc P W base spare held fuel t ((cs.drop ((ts.take i).map P.cellsOf).sum).take (P.cellsOf t)) = xs[i]?) →
    (∀ z ∈ DataW.weightsEach P ts (xs.map (·.1)), z ≤ reachBytes) → ∃ x, k.K W x cs ∧ B x
theorem opensL_one {P : Program} {α : Type} {k : Kd α} {t : TypeId} {B : α → Prop} (h : Opens P k t B) : OpensL P k [t] B := by
  intro H enc W base spare held fuel cs xs hl hx ht hz
  obtain ⟨x, rfl⟩ : ∃ x, xs = [x] := by
    match xs, hx with
    | [x], _ => exact ⟨x, rfl⟩
  have h0 := ht 0 t rfl
  simp at hl
  simp only [List.take_zero, List.map_nil, List.sum_nil, List.drop_zero, List.getElem?_cons_zero] at h0
  rw [List.take_of_length_le (by omega)] at h0
  exact h enc W base spare held fuel cs x.1 x.2 h0 (fun z hzz => hz z (DataW.weights_mem_each (j := 0) rfl rfl z hzz))
theorem opensL_cons {P : Program} {α β : Type} {k : Kd α} {k2 : Kd β} {t : TypeId} {ts : List TypeId} {B : α → Prop} {B2 : β → Prop} (h : Opens P k t B) (h2 : OpensL P k2 ts B2) : OpensL P (Kd.pair k k2) (t :: ts) (fun x => B x.1 ∧ B2 x.2) := by
  intro H enc W base spare held fuel cs xs hl hx ht hz
  obtain ⟨x, xs, rfl⟩ : ∃ x ys, xs = x :: ys := by
    match xs, hx with
    | x :: ys, _ => exact ⟨x, ys, rfl⟩
  simp only [List.map_cons, List.sum_cons] at hl
  have h0 := ht 0 t rfl
  simp only [List.take_zero, List.map_nil, List.sum_nil, List.drop_zero, List.getElem?_cons_zero] at h0
  obtain ⟨a, ha, hB⟩ := h enc W base spare held fuel _ x.1 x.2 h0 (fun z hzz => hz z (DataW.weights_mem_each (j := 0) rfl rfl z hzz))
  obtain ⟨b, hb, hB2⟩ := h2 enc W base spare held fuel (cs.drop (P.cellsOf t)) xs (by rw [List.length_drop]; omega) (by simpa using hx) (fun i u hi => by
    have := ht (i + 1) u hi
    simp only [List.take_succ_cons, List.map_cons, List.sum_cons, List.getElem?_cons_succ] at this
    rw [List.drop_drop]
    exact this) (fun z hzz => hz z (by simp only [List.map_cons, DataW.weightsEach]; exact List.mem_append_right _ hzz))
  exact ⟨(a, b), ⟨cs.take (P.cellsOf t), cs.drop (P.cellsOf t), (List.take_append_drop _ _).symm, ha, hb⟩, hB, hB2⟩
theorem opens_struct {P : Program} {α β : Type} {k : Kd α} {t : TypeId} {fs : Array Field} {ts : List TypeId} {B : α → Prop} {f : β → α} (g : α → β) (hfg : ∀ x, f (g x) = x) (hu : P.underlying t = some (.struct fs)) (hts : fs.toList.map (·.type) = ts)
    (hoff : (List.range fs.size).all (fun i => (fs[i]?).all fun x => x.offset == ((ts.take i).map P.cellsOf).sum) = true) (hcells : P.cellsOf t = (ts.map P.cellsOf).sum) (h : OpensL P k ts B) : Opens P (Kd.iso k f) t (fun y => B (f y)) := by
  intro H enc W base spare held fuel cs d p ht hz
  obtain ⟨xs, n, _, hx, hl, hxl, hg⟩ := DataW.trod_struct hu ht
  obtain ⟨rfl, _⟩ := Prod.mk.inj hx
  have hlen : ts.length = fs.size := by rw [← hts]; simp
  obtain ⟨x, hK, hB⟩ := h enc W base spare held n cs xs (by rw [hl, hcells]) (by rw [hxl, hlen]) (fun i u hi => by
    rw [← hts, List.getElem?_map] at hi
    obtain ⟨fl, hf, rfl⟩ := Option.map_eq_some_iff.1 hi
    have hf2 : fs[i]? = some fl := by simpa using hf
    have hi2 : i < fs.size := (Array.getElem?_eq_some_iff.1 hf2).1
    have ho := List.all_eq_true.1 hoff i (by simpa using hi2)
    rw [hf2] at ho
    simp only [Option.all_some, beq_iff_eq] at ho
    rw [← ho]
    exact hg i fl hf2) (fun z hzz => hz z (by simp only [DataW.weights, hu, hts]; exact hzz))
  refine ⟨g x, ?_, ?_⟩
  · show k.K W (f (g x)) cs
    rw [hfg]; exact hK
  · show B (f (g x))
    rw [hfg]; exact hB
end Go.Proofs.Ytkdbolhheodfkaa.XWords
