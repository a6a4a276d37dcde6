/- The stable order of a list: what is ordered, and keeps alike ones in their order, is one list only; merging two such lists makes one. -/
namespace Go.Stable
variable {α : Type}
/-- Alike: neither stands ahead of the other. -/
def alike (le : α → α → Bool) (x y : α) : Bool := le x y && le y x
/-- R is L in order, alike ones as in L. -/
def SS (le : α → α → Bool) (L R : List α) : Prop := R.Pairwise (fun a b => le a b = true) ∧ ∀ x, R.filter (alike le x) = L.filter (alike le x)
/-- Merging. -/
def mg (le : α → α → Bool) : List α → List α → List α
  | [], V => V
  | u :: U, [] => u :: U
  | u :: U, v :: V => if le u v then u :: mg le U (v :: V) else v :: mg le (u :: U) V
termination_by U V => U.length + V.length
/-- One more, behind all that aren't behind it. -/
def insS (le : α → α → Bool) (R : List α) (x : α) : List α := mg le R [x]
def isort (le : α → α → Bool) (L : List α) : List α := L.foldl (insS le) []
theorem SS.nil {le : α → α → Bool} : SS le ([] : List α) [] := ⟨List.Pairwise.nil, fun _ => rfl⟩
theorem SS.one {le : α → α → Bool} (x : α) : SS le [x] [x] := ⟨List.pairwise_singleton _ _, fun _ => rfl⟩
end Go.Stable
