/- Words of the printed relations. -/
import Derived.Test.YtgncepjnbdhmkaaAbQ
import Derived.Laws.Strings
set_option linter.unusedVariables false
set_option linter.unusedSimpArgs false
namespace Go.Ab

@[reducible] def InR (n : Int) : Prop := -9223372036854775808 ≤ n ∧ n ≤ 9223372036854775807
@[reducible] def InK (k : IntKind) (n : Int) : Prop := k.min ≤ n ∧ n ≤ k.max
@[reducible] def Quo (k : IntKind) (a b : Int) : Prop := 0 ≤ a ∧ 0 < b ∧ a ≤ k.max
@[reducible] def App (b n : Nat) : Prop := n ≤ maxLen ∧ n * b ≤ 140737488355328
@[reducible] def Mk (b : Nat) (n : Int) : Prop := 0 ≤ n ∧ b * n.toNat ≤ 281474976710656 ∧ n.toNat ≤ maxLen
@[reducible] def Cut (l h n : Int) : Prop := 0 ≤ l ∧ l ≤ h ∧ h ≤ n
@[reducible] def At8 (b : ByteArray) (n : Nat) (c : Int) : Prop := (b.data[n]?).map (fun u => (u.toNat : Int)) = some c
def lenM {α : Type} (f : α → List T) (l : List α) : Int := ((l.map f).length : Int)
theorem lenM_eq {α : Type} {f : α → List T} {l : List α} : lenM f l = (l.length : Int) := by simp [lenM]

theorem get_map {α : Type} {f : α → List T} {l : List α} {n : Nat} {x : α} (h : l[n]? = some x) : (l.map f)[n]? = some (f x) := by simp [h]
theorem lt_map {α : Type} {f : α → List T} {l : List α} {n : Nat} (h : n < l.length) : n < (l.map f).length := by simpa using h
theorem app1 {b : Nat} {r : List T} (h : App b 1 := by decide) : [r].length ≤ maxLen ∧ [r].length * b ≤ 140737488355328 := h
theorem app_nil {α : Type} {f : α → List T} {b : Nat} {l : List α} (h : App b l.length) : (l.map f).length ≤ maxLen ∧ (l.map f).length * b ≤ 140737488355328 := by simpa using h
theorem app_one {α : Type} {f : α → List T} {b : Nat} {l : List α} {r : List T} (h : App b (l.length + 1)) : (l.map f).length + [r].length ≤ maxLen ∧ ((l.map f).length + [r].length) * b ≤ 140737488355328 := by simpa using h
theorem app_two {α : Type} {f : α → List T} {b : Nat} {l m : List α} (h : App b (l.length + m.length)) : (l.map f).length + (m.map f).length ≤ maxLen ∧ ((l.map f).length + (m.map f).length) * b ≤ 140737488355328 := by simpa using h

theorem app_z {α : Type} {f : α → List T} {b : Nat} {l : List α} (h : App b l.length) : ([] : List (List T)).length + (l.map f).length ≤ maxLen ∧ (([] : List (List T)).length + (l.map f).length) * b ≤ 140737488355328 := by simpa using h

theorem mk0 {b : Nat} {n : Int} (h : Mk b n) : (0 : Int) = ((0 : Nat) : Int) ∧ n = (n.toNat : Int) ∧ 0 ≤ n.toNat ∧ b * n.toNat ≤ 281474976710656 ∧ n.toNat ≤ maxLen :=
  ⟨rfl, (Int.toNat_of_nonneg h.1).symm, Nat.zero_le _, h.2⟩
theorem mk1 {b : Nat} {n : Int} (h : Mk b n) : n = (n.toNat : Int) ∧ n = (n.toNat : Int) ∧ n.toNat ≤ n.toNat ∧ b * n.toNat ≤ 281474976710656 ∧ n.toNat ≤ maxLen :=
  ⟨(Int.toNat_of_nonneg h.1).symm, (Int.toNat_of_nonneg h.1).symm, Nat.le_refl _, h.2⟩

section
variable {α : Type} {f : α → List T} {l h : Int} {xs : List α} {b : ByteArray}
theorem cutL (_h : Cut 0 (xs.length : Int) xs.length) : 0 = 0 ∧ (xs.map f).length = (xs.map f).length := ⟨rfl, rfl⟩
theorem cutLl (hc : Cut l (xs.length : Int) xs.length) : l = (l.toNat : Int) ∧ (xs.map f).length = (xs.map f).length ∧ l.toNat ≤ (xs.map f).length := by
  obtain ⟨h1, h2, h3⟩ := hc; refine ⟨by omega, rfl, ?_⟩; rw [List.length_map]; omega
theorem cutLh (hc : Cut 0 h xs.length) : 0 = 0 ∧ h = (h.toNat : Int) ∧ h.toNat ≤ (xs.map f).length := by
  obtain ⟨h1, h2, h3⟩ := hc; refine ⟨rfl, by omega, ?_⟩; rw [List.length_map]; omega
theorem cutLlh (hc : Cut l h xs.length) : l = (l.toNat : Int) ∧ h = (h.toNat : Int) ∧ l.toNat ≤ h.toNat ∧ h.toNat ≤ (xs.map f).length := by
  obtain ⟨h1, h2, h3⟩ := hc; refine ⟨by omega, by omega, by omega, ?_⟩; rw [List.length_map]; omega
theorem cutSl (hc : Cut l (b.size : Int) b.size) : l = (l.toNat : Int) ∧ b.size = b.size ∧ l.toNat ≤ b.size := by
  obtain ⟨h1, h2, h3⟩ := hc; exact ⟨by omega, rfl, by omega⟩
theorem cutSh (hc : Cut 0 h b.size) : (0 : Int).toNat = 0 ∧ h = (h.toNat : Int) ∧ h.toNat ≤ b.size := by
  obtain ⟨h1, h2, h3⟩ := hc; exact ⟨rfl, by omega, by omega⟩
theorem cutSlh (hc : Cut l h b.size) : l = (l.toNat : Int) ∧ h = (h.toNat : Int) ∧ l.toNat ≤ h.toNat ∧ h.toNat ≤ b.size := by
  obtain ⟨h1, h2, h3⟩ := hc; exact ⟨by omega, by omega, by omega, by omega⟩
end

theorem ifP {c : Prop} [Decidable c] {A B : Prop} (hc : c) (h : if c then A else B) : A := by rwa [if_pos hc] at h
theorem ifN {c : Prop} [Decidable c] {A B : Prop} (hc : ¬ c) (h : if c then A else B) : B := by rwa [if_neg hc] at h
theorem iteI {c : Prop} [Decidable c] {A B : Prop} (h1 : c → A) (h2 : ¬ c → B) : if c then A else B := by
  by_cases h : c
  · rw [if_pos h]; exact h1 h
  · rw [if_neg h]; exact h2 h
theorem bfalse {b : Bool} (h : ¬ b = true) : b = false := by simpa using h

/-! Texts: '==' of two texts, and their order. -/
def strEq (x y : ByteArray) : Bool := x.toList == y.toList
def strLt (x y : ByteArray) : Bool := Go.Op.bytesLess x.toList y.toList
def strLe (x y : ByteArray) : Bool := strLt x y || strEq x y
theorem toList_inj {x y : ByteArray} (h : x.toList = y.toList) : x = y := by
  rw [ByteArray.toList_eq, ByteArray.toList_eq] at h
  cases x with | mk a => cases y with | mk b => exact congrArg ByteArray.mk (Array.toList_inj.1 h)
theorem strEq_true {x y : ByteArray} (h : x = y) : strEq x y = true := by simp [strEq, h]
theorem strEq_false {x y : ByteArray} (h : x ≠ y) : strEq x y = false := by
  simp only [strEq, beq_eq_false_iff_ne, ne_eq]; exact fun e => h (toList_inj e)
theorem strNe_true {x y : ByteArray} (h : x ≠ y) : (!strEq x y) = true := by rw [strEq_false h]; rfl
theorem strNe_false {x y : ByteArray} (h : x = y) : (!strEq x y) = false := by rw [strEq_true h]; rfl
theorem bneq_true {x y : Bool} (h : x ≠ y) : (!(x == y)) = true := by cases x <;> cases y <;> simp_all
theorem bneq_false {x y : Bool} (h : x = y) : (!(x == y)) = false := by simp [h]
end Go.Ab
