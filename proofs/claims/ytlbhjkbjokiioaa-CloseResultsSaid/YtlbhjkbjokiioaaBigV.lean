-- a shortened text: what this claim does not name is left out (wip/xprint/prune.py of this repo)
import Init
namespace Go.Proofs.Ytlbhjkbjokiioaa.Big
def val : List Int → Int
  | [] => 0
  | d :: l => d + 65536 * val l
def P (n : Nat) : Int := 65536 ^ n
def Digits (l : List Int) : Prop := ∀ x ∈ l, 0 ≤ x ∧ x < 65536
def Trimmed (l : List Int) : Prop := ∀ h : l ≠ [], l.getLast h ≠ 0
def IsBig (l : List Int) (n : Int) : Prop := Digits l ∧ Trimmed l ∧ val l = n
theorem Digits.nil : Digits [] := by intro x h; cases h
theorem Digits.cons {d : Int} {l : List Int} (h0 : 0 ≤ d) (h1 : d < 65536) (h : Digits l) : Digits (d :: l) := by
  intro x hx
  rcases List.mem_cons.1 hx with rfl | hx
  · exact ⟨h0, h1⟩
  · exact h x hx
theorem Digits.tail {d : Int} {l : List Int} (h : Digits (d :: l)) : Digits l := fun x hx => h x (List.mem_cons_of_mem _ hx)
theorem Digits.head {d : Int} {l : List Int} (h : Digits (d :: l)) : 0 ≤ d ∧ d < 65536 := h d (List.mem_cons_self ..)
theorem Digits.append {a b : List Int} (h : Digits a) (k : Digits b) : Digits (a ++ b) := by
  intro x hx
  rcases List.mem_append.1 hx with hx | hx
  · exact h x hx
  · exact k x hx
theorem Digits.take {l : List Int} (h : Digits l) (n : Nat) : Digits (l.take n) := fun x hx => h x (List.mem_of_mem_take hx)
theorem Digits.drop {l : List Int} (h : Digits l) (n : Nat) : Digits (l.drop n) := fun x hx => h x (List.mem_of_mem_drop hx)
theorem Digits.set {l : List Int} (h : Digits l) (i : Nat) {x : Int} (h0 : 0 ≤ x) (h1 : x < 65536) : Digits (l.set i x) := by
  intro y hy
  rcases List.mem_or_eq_of_mem_set hy with hy | rfl
  · exact h y hy
  · exact ⟨h0, h1⟩
theorem trimmed_nil : Trimmed [] := fun h => absurd rfl h
theorem IsBig.nil : IsBig [] 0 := ⟨Digits.nil, trimmed_nil, rfl⟩
end Go.Proofs.Ytlbhjkbjokiioaa.Big
