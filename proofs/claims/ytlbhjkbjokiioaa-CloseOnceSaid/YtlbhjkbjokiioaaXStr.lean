-- a shortened text: what this claim does not name is left out (wip/xprint/prune.py of this repo)
import Derived.Laws.Strings
import Derived.Lib.SliceRun
import Derived.Tactics
import Derived.Below
import Derived.Deep.Draws
namespace Go.Proofs.Ytlbhjkbjokiioaa.XWords
open Go
theorem bl_total : ∀ a b : List UInt8, (Op.bytesLess a b || a == b) = !Op.bytesLess b a
 | [], [] => rfl
 | [], _ :: _ => rfl
 | _ :: _, [] => rfl
 | a :: x, b :: y => by
  have ih := bl_total x y
  by_cases h : a = b
  · subst h
    have n : ¬ a < a := UInt8.lt_irrefl a
    simp only [Op.bytesLess, n, decide_false, Bool.false_or, beq_self_eq_true, Bool.true_and, List.cons_beq_cons]
    exact ih
  · have e1 : (a == b) = false := by simpa using h
    have e2 : (b == a) = false := by simpa using (Ne.symm h)
    by_cases l : a < b
    · have n : ¬ b < a := UInt8.lt_asymm l
      simp [Op.bytesLess, e1, e2, l, n]
    · have g : b < a := by
       rcases UInt8.lt_or_lt_of_ne h with z | z
       · exact absurd z l
       · exact z
      simp [Op.bytesLess, e1, e2, l, g]
@[go_sem high] theorem str_leq (t : TypeId) (a b : ByteArray) : binOp .leq t (.string a) (.string b) = pure (.bool (!Op.bytesLess b.toList a.toList)) := by
 rw [← bl_total]; simp [binOp, Op.stringOp]
@[go_sem high] theorem str_gtr (t : TypeId) (a b : ByteArray) : binOp .gtr t (.string a) (.string b) = pure (.bool (Op.bytesLess b.toList a.toList)) := by
 have h := bl_total a.toList b.toList
 have e : (!(Op.bytesLess a.toList b.toList || a.toList == b.toList)) = Op.bytesLess b.toList a.toList := by rw [h, Bool.not_not]
 rw [← e]; simp [binOp, Op.stringOp]
@[go_sem high] theorem str_geq (t : TypeId) (a b : ByteArray) : binOp .geq t (.string a) (.string b) = pure (.bool (!Op.bytesLess a.toList b.toList)) := by
 simp [binOp, Op.stringOp]
end Go.Proofs.Ytlbhjkbjokiioaa.XWords
namespace Go.Proofs.Ytlbhjkbjokiioaa.XWords
open Go
variable {w w' : World} {m : Nat}
theorem cell_at (hq : w.drewN m = w') : ∀ a : Addr, w'.cell? a = w.cell? a := by subst hq; intro a; simp
theorem frozen_at (hq : w.drewN m = w') : ∀ a : Addr, w'.frozen? a = w.frozen? a := by subst hq; intro a; simp
end Go.Proofs.Ytlbhjkbjokiioaa.XWords
namespace Go.Proofs.Ytlbhjkbjokiioaa.XWords
open Go
@[go_sem low] theorem cell_set (w : World) (p : Addr) (x : Value) : (w.setCell p x).cell? p = (w.cell? p).map fun _ => x := by
 cases h : w.cell? p with
 | some v => rw [World.cell?_setCell_same w p x h]; rfl
 | none =>
  simp only [Option.map_none]
  unfold World.cell? at h ⊢
  unfold World.setCell
  simp only [Array.getElem?_modify]
  cases hb : w.heap[p.block]? with
  | none => simp
  | some o =>
   rw [hb] at h
   cases o <;> simp only [Option.map_some, if_true]
   rename_i c e f
   by_cases hs : p.spot.isSome = true
   · simp [hs]
   · simp only [hs] at h ⊢
     simpa using h
theorem cell_here {w : World} {p : Addr} {u : Value} (h : w.cell? p = some u) (x : Value) : (w.setCell p x).cell? p = some x := by rw [cell_set, h]; rfl
end Go.Proofs.Ytlbhjkbjokiioaa.XWords
