/- What is told of a calendar in memory: its block, and its days off, which lie in another block. -/
import Derived.Test.YtkdbolhheodfkaaX0
import Derived.Test.YtkdbolhheodfkaaWShare
namespace Go.Proofs.Ytkdbolhheodfkaa.X
open Go Go.RowKit Go.Proofs.YtkdbolhheodfkaaW.PrintWords Go.Proofs.YtkdbolhheodfkaaW.PrintLast Go.Proofs.YtkdbolhheodfkaaW.PrintMore
set_option linter.unusedVariables false

def IsS57 (w0 W : World) (g : Nat) (f0 : List Int) : Prop := ∃ A0 c0, W.heap[g]? = some (.cells #[.slice A0 f0.length c0] 57 (0, 0)) ∧ w0.heap.size ≤ g ∧ f0.length ≤ c0 ∧
  (f0 = [] ∨ ∃ (b : Nat) (cc : Array Value), A0 = some ⟨b, 0, none⟩ ∧ W.heap[b]? = some (.cells cc 3 (0, 0)) ∧ cc.toList.take f0.length = f0.map (Value.int .i64))
theorem IsS57.below {w0 W : World} {g : Nat} {f0 : List Int} {W1 : World} (h : IsS57 w0 W g f0) (hw : Below W.heap.size W W1) : IsS57 w0 W1 g f0 := by
  obtain ⟨A0, c0, hb, hg, hl, hr0⟩ := h
  refine ⟨A0, c0, blk_grown hb (grown_of_below hw none) (by simp), hg, hl, ?_⟩
  rcases hr0 with h0 | ⟨b, cc, h1, h2, h3⟩
  · exact .inl h0
  · exact .inr ⟨b, cc, h1, (hw.block b (Array.getElem?_eq_some_iff.1 h2).1).trans h2, h3⟩
/-- That block holds cells, and no whole numbers. -/
def NotInts (W : World) (a : Nat) : Prop := ∃ cs t fr, W.heap[a]? = some (.cells cs t fr) ∧ t ≠ 3
theorem NotInts.of {W : World} {a : Nat} {cs : Array Value} {t : TypeId} {fr : Nat × Nat} (h : W.heap[a]? = some (.cells cs t fr)) (ht : t ≠ 3) : NotInts W a := ⟨cs, t, fr, h, ht⟩
theorem NotInts.set {W : World} {a : Nat} (h : NotInts W a) (p : Addr) (u : Value) : NotInts (W.setCell p u) a := by
  obtain ⟨cs, t, fr, h, ht⟩ := h
  by_cases c : a = p.block
  · subst c
    exact ⟨_, t, fr, by simp only [World.setCell, Array.getElem?_modify, h]; simp; rfl, ht⟩
  · exact ⟨cs, t, fr, (Below.heap_setCell W p u a c).trans h, ht⟩
theorem NotInts.below {W W1 : World} {a : Nat} (h : NotInts W a) (hb : Below W.heap.size W W1) : NotInts W1 a := by
  obtain ⟨cs, t, fr, h, ht⟩ := h
  exact ⟨cs, t, fr, (hb.block a (Array.getElem?_eq_some_iff.1 h).1).trans h, ht⟩
theorem NotInts.drewN {W : World} {a : Nat} (h : NotInts W a) (m : Nat) : NotInts (W.drewN m) a := h.below (pw_below_drewN (Below.refl _ _) m)
theorem NotInts.drew {W : World} {a : Nat} (h : NotInts W a) : NotInts W.drew a := h.below (below_drew1 (Below.refl _ _))
theorem NotInts.alloc {W : World} {a : Nat} (h : NotInts W a) (o : Obj) : NotInts (W.alloc o) a := h.below (below_alloc (Below.refl _ _) o)
theorem IsS57.far {w0 W : World} {g : Nat} {f0 : List Int} {p : Addr} (h : IsS57 w0 W g f0) (hne : g ≠ p.block) (u : Value) (hb2 : NotInts W p.block) : IsS57 w0 (W.setCell p u) g f0 := by
  obtain ⟨A0, c0, hb, hg, hl, hr0⟩ := h
  refine ⟨A0, c0, blk_far hb hne u, hg, hl, ?_⟩
  rcases hr0 with h0 | ⟨b, cc, h1, h2, h3⟩
  · exact .inl h0
  · have hbp : b ≠ p.block := by
      rintro rfl
      obtain ⟨cs, t, fr, hb2, ht⟩ := hb2
      rw [h2] at hb2
      injection hb2 with hb2
      injection hb2 with _ ht2
      exact ht ht2.symm
    exact .inr ⟨b, cc, h1, (Below.heap_setCell W p u b hbp).trans h2, h3⟩
theorem IsS57.alloc {w0 W : World} {g : Nat} {f0 : List Int} (h : IsS57 w0 W g f0) (o : Obj) : IsS57 w0 (W.alloc o) g f0 := h.below (below_alloc (Below.refl _ _) o)
theorem IsS57.drewN {w0 W : World} {g : Nat} {f0 : List Int} (h : IsS57 w0 W g f0) (m : Nat) : IsS57 w0 (W.drewN m) g f0 := h.below (pw_below_drewN (Below.refl _ _) m)
theorem IsS57.drew {w0 W : World} {g : Nat} {f0 : List Int} (h : IsS57 w0 W g f0) : IsS57 w0 W.drew g f0 := h.below (below_drew1 (Below.refl _ _))
theorem IsS57.at_ {w0 W : World} {g : Nat} {f0 : List Int} {w' : World} {m : Nat} (hq : W.drewN m = w') (h : IsS57 w0 W g f0) : IsS57 w0 w' g f0 := by subst hq; exact IsS57.drewN h m
theorem IsS57.lt {w0 W : World} {g : Nat} {f0 : List Int} (h : IsS57 w0 W g f0) : g < W.heap.size := by
  obtain ⟨A0, c0, hb, hg, hl, hr0⟩ := h
  exact blk_lt hb
theorem IsS57.ge {w0 W : World} {g : Nat} {f0 : List Int} (h : IsS57 w0 W g f0) : w0.heap.size ≤ g := by
  obtain ⟨A0, c0, hb, hg, hl, hr0⟩ := h
  exact hg
theorem IsS57.fresh {w0 W : World} {g : Nat} {f0 : List Int} (h : IsS57 w0 W g f0) : ∀ k, W.heap.size ≤ k → k ≠ g := by
  obtain ⟨A0, c0, hb, hg, hl, hr0⟩ := h
  exact Kd.freshB hb
theorem IsS57.ne_blk {w0 W : World} {g : Nat} {f0 : List Int} {a : Nat} {cs : Array Value} {t : TypeId} {fr : Nat × Nat} (h : IsS57 w0 W g f0) (hb2 : W.heap[a]? = some (.cells cs t fr)) (ht : t ≠ 57) : g ≠ a := by
  obtain ⟨A0, c0, hb, hg, hl, hr0⟩ := h
  rintro rfl
  rw [hb] at hb2
  injection hb2 with hb2
  injection hb2 with _ ht2
  exact ht ht2.symm
end Go.Proofs.Ytkdbolhheodfkaa.X
