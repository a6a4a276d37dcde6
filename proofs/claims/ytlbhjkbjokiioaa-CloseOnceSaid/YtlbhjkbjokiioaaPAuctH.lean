-- a shortened text: what this claim does not name is left out (wip/xprint/prune.py of this repo)
import Derived.Test.YtlbhjkbjokiioaaPSortE
import Derived.Test.YtlbhjkbjokiioaaPFixB
import Derived.Test.YtlbhjkbjokiioaaMD
import Derived.Test.YtlbhjkbjokiioaaX6
import Derived.Test.YtlbhjkbjokiioaaX11
import Derived.Test.YtlbhjkbjokiioaaXMin
import Derived.Test.YtlbhjkbjokiioaaX0
import Derived.Test.YtlbhjkbjokiioaaX18
section
namespace Go.Proofs.Ytlbhjkbjokiioaa.PAuct
open Go Go.RowKit Go.Proofs.Ytlbhjkbjokiioaa.X Go.Proofs.YtlbhjkbjokiioaaW.PrintWords Go.Proofs.YtlbhjkbjokiioaaW.PrintLast Go.Proofs.YtlbhjkbjokiioaaW.PrintMore Go.Stable Go.Proofs.Ytlbhjkbjokiioaa.PSort
set_option linter.unusedVariables false
abbrev Bid := S66
abbrev Lot := S63
abbrev Sold := S58
def toE (x : Bid) : E := ⟨x.f0, x.f1, x.f2, x.f3⟩
def leR (x y : Bid) : Bool := leE (toE x) (toE y)
theorem rdB {l : List Bid} {i : Nat} (h : i < l.length) : rd_T66 l (i : Int) = l[i] := by
  unfold rd_T66; rw [Int.toNat_natCast, List.getD_eq_getElem?_getD, List.getElem?_eq_getElem h]; rfl
theorem rdE {l : List E} {i : Nat} (h : i < l.length) : rd_T79 l (i : Int) = l[i] := by
  unfold rd_T79; rw [Int.toNat_natCast, List.getD_eq_getElem?_getD, List.getElem?_eq_getElem h]; rfl
theorem rdL {l : List Lot} {i : Nat} (h : i < l.length) : rd_T63 l (i : Int) = l[i] := by
  unfold rd_T63; rw [Int.toNat_natCast, List.getD_eq_getElem?_getD, List.getElem?_eq_getElem h]; rfl
theorem rdS {l : List Sold} {i : Nat} (h : i < l.length) : rd_T58 l (i : Int) = l[i] := by
  unfold rd_T58; rw [Int.toNat_natCast, List.getD_eq_getElem?_getD, List.getElem?_eq_getElem h]; rfl
theorem mg_map : ∀ (U V : List Bid), (mg leR U V).map toE = mg leE (U.map toE) (V.map toE)
  | [], V => by simp [mg]
  | u :: U, [] => by simp [mg]
  | u :: U, v :: V => by
    rw [List.map_cons, List.map_cons, mg, mg]
    by_cases c : leR u v = true
    · rw [if_pos c, if_pos (show leE (toE u) (toE v) = true from c), List.map_cons, mg_map U (v :: V), List.map_cons]
    · rw [if_neg c, if_neg (show ¬ leE (toE u) (toE v) = true from c), List.map_cons, mg_map (u :: U) V, List.map_cons]
termination_by U V => U.length + V.length
theorem isort_map (L : List Bid) : (isort leR L).map toE = isort leE (L.map toE) := by
  have : ∀ (L R : List Bid), (L.foldl (insS leR) R).map toE = (L.map toE).foldl (insS leE) (R.map toE) := by
    intro L
    induction L with
    | nil => intro R; rfl
    | cons x L ih => intro R; rw [List.foldl_cons, ih, List.map_cons, List.foldl_cons]; congr 1; exact mg_map R [x]
  exact this L []
def Of (id : ByteArray) (b : Bid) : Bool := decide (b.f1.toList = id.toList)
end Go.Proofs.Ytlbhjkbjokiioaa.PAuct
end
section
namespace Go.Proofs.Ytlbhjkbjokiioaa.PAuct
open Go Go.RowKit Go.Proofs.Ytlbhjkbjokiioaa.X Go.Proofs.YtlbhjkbjokiioaaW.PrintWords Go.Proofs.YtlbhjkbjokiioaaW.PrintLast Go.Proofs.YtlbhjkbjokiioaaW.PrintMore Go.Stable Go.Proofs.Ytlbhjkbjokiioaa.PSort
set_option linter.unusedVariables false
def wrongS : List Bid → Int
  | [] => 0
  | b :: r => if b.f0 < 1 ∨ b.f0 > 32 then 22 else if b.f2 < 1 ∨ b.f2 > 1125899906842624 ∨ b.f3 < 1 ∨ b.f3 > 4294967296 then 1 else wrongS r
def Fine (b : Bid) : Prop := (1 ≤ b.f0 ∧ b.f0 ≤ 32) ∧ (1 ≤ b.f2 ∧ b.f2 ≤ 1125899906842624) ∧ 1 ≤ b.f3 ∧ b.f3 ≤ 4294967296
theorem wrong_fine : ∀ {l : List Bid}, wrongS l = 0 → ∀ b ∈ l, Fine b
  | [], _ => fun _ h => by cases h
  | x :: r, h => by
    unfold wrongS at h
    split at h
    · cases h
    · rename_i c
      split at h
      · cases h
      · rename_i d
        intro y hy
        rcases List.mem_cons.1 hy with e | hy
        · rw [e]; exact ⟨by omega, by omega, by omega, by omega⟩
        · exact wrong_fine h y hy
theorem check_go (l : List Bid) (hl : l.length ≤ 300) : ∀ (n i : Nat), i + n = l.length → Ev (fun k => close_check.l0 k (l.map toE) (l.length : Int) i) (wrongS (l.drop i))
  | 0, i, hi => by
    rw [List.drop_of_length_le (by omega)]
    refine Ev.step (f := fun _ => some 0) (fun k => ?_) (Ev.now _)
    simp only [close_check.l0]
    rw [if_neg (by omega)]
  | n + 1, i, hi => by
    have h : i < l.length := by omega
    have h' : i < (l.map toE).length := by simp; omega
    rw [List.drop_eq_getElem_cons h]
    have ih := check_go l hl n (i + 1) (by omega)
    have e : rd_T79 (l.map toE) (i : Int) = toE l[i] := by rw [rdE h', List.getElem_map]
    have bd : Ev (fun k => close_check.j1 k (l.map toE) (l.length : Int) i true l[i].f0 l[i].f1 l[i].f2 l[i].f3) 22 := Ev.step (f := fun _ => some 22) (fun k => by simp only [close_check.j1]; rw [if_pos trivial]) (Ev.now _)
    refine Ev.step (f := fun k => if l[i].f0 < 1 then close_check.j1 k (l.map toE) (l.length : Int) i true l[i].f0 l[i].f1 l[i].f2 l[i].f3 else close_check.j1 k (l.map toE) (l.length : Int) i (decide (l[i].f0 > 32)) l[i].f0 l[i].f1 l[i].f2 l[i].f3) (fun k => ?_) ?_
    · simp only [close_check.l0]
      rw [if_pos (by omega), if_pos (by omega), if_pos (by simp; omega), e]
      rfl
    unfold wrongS
    by_cases c1 : l[i].f0 < 1
    · simp only [if_pos c1]; rw [if_pos (.inl c1)]; exact bd
    simp only [if_neg c1]
    by_cases c2 : l[i].f0 > 32
    · rw [if_pos (.inr c2), decide_eq_true c2]; exact bd
    rw [if_neg (by omega), decide_eq_false c2]
    refine Ev.step (f := fun k => if l[i].f2 < 1 ∨ l[i].f2 > 1125899906842624 ∨ l[i].f3 < 1 ∨ l[i].f3 > 4294967296 then some 1 else close_check.l0 k (l.map toE) (l.length : Int) ((i + 1 : Nat) : Int)) (fun k => ?_) ?_
    · simp only [close_check.j1, Bool.false_eq_true, if_false]
      rw [wsucc (by omega)]
      by_cases d1 : l[i].f2 < 1
      · rw [if_pos d1, if_pos (.inl d1)]
      by_cases d2 : l[i].f2 > 1125899906842624
      · rw [if_neg d1, if_pos d2, if_pos (.inr (.inl d2))]
      by_cases d3 : l[i].f3 < 1
      · rw [if_neg d1, if_neg d2, if_pos d3, if_pos (.inr (.inr (.inl d3)))]
      by_cases d4 : l[i].f3 > 4294967296
      · rw [if_neg d1, if_neg d2, if_neg d3, if_pos d4, if_pos (.inr (.inr (.inr d4)))]
      rw [if_neg d1, if_neg d2, if_neg d3, if_neg d4, if_neg (by omega)]
    · by_cases d : l[i].f2 < 1 ∨ l[i].f2 > 1125899906842624 ∨ l[i].f3 < 1 ∨ l[i].f3 > 4294967296
      · simp only [if_pos d]; exact Ev.now _
      · simp only [if_neg d]; exact ih
theorem check_ev (l : List Bid) (hl : l.length ≤ 300) : Ev (fun k => close_check.f k (l.map toE)) (if l.length > 256 then 2 else wrongS l) := by
  unfold close_check.f
  by_cases c : l.length > 256
  · rw [if_pos c]
    simp only [List.length_map, if_pos (show (l.length : Int) > 256 by omega)]
    exact Ev.now _
  · rw [if_neg c]
    simp only [List.length_map, if_neg (show ¬ (l.length : Int) > 256 by omega)]
    exact check_go l hl l.length 0 (by omega)
theorem bids_go (L : List Bid) (hL : L.length ≤ 500) : ∀ (n i : Nat) (out : List E), i + n = L.length → out.length ≤ i → Ev (fun k => lombardlaw29_bids.l0 k L out i) (out ++ (L.drop i).map toE)
  | 0, i, out, hi, ho => by
    rw [List.drop_of_length_le (by omega)]
    refine Ev.step (f := fun _ => some out) (fun k => ?_) (by simpa using Ev.now _)
    simp only [lombardlaw29_bids.l0]
    rw [if_neg (by omega)]
  | n + 1, i, out, hi, ho => by
    have h : i < L.length := by omega
    rw [List.drop_eq_getElem_cons h, List.map_cons]
    have ih := bids_go L hL n (i + 1) (out ++ [toE L[i]]) (by omega) (by simp; omega)
    refine Ev.step (fun k => ?_) (by simpa using ih)
    simp only [lombardlaw29_bids.l0]
    rw [if_pos (by omega), if_pos (by omega), if_pos (by omega), rdB h, wsucc (by omega)]
    rfl
theorem bids_ev (L : List Bid) (hL : L.length ≤ 500) : Ev (fun k => lombardlaw29_bids.f k L) (L.map toE) := by
  have := bids_go L hL L.length 0 [] (by omega) (by simp)
  rw [List.drop_zero, List.nil_append] at this
  exact this
end Go.Proofs.Ytlbhjkbjokiioaa.PAuct
end
section
namespace Go.Proofs.Ytlbhjkbjokiioaa.PAuct
open Go Go.RowKit Go.Proofs.Ytlbhjkbjokiioaa.X Go.Proofs.YtlbhjkbjokiioaaW.PrintWords Go.Proofs.YtlbhjkbjokiioaaW.PrintLast Go.Proofs.YtlbhjkbjokiioaaW.PrintMore Go.Stable Go.Proofs.Ytlbhjkbjokiioaa.PSort Go.Proofs.Ytlbhjkbjokiioaa.MDS
set_option linter.unusedVariables false
def W (q p : Int) : Int := (mulDivS q p 1000000 1).1
theorem W_bd {q p : Int} (q0 : 0 ≤ q) (p0 : 1 ≤ p) : 0 ≤ W q p ∧ W q p ≤ 9223372036854775807 := by
  have m : minusOf q p 1000000 = false := by unfold minusOf; rw [decide_eq_false (by omega), decide_eq_false (by omega)]; rfl
  have u : ∀ a r d, upOf false a r d 1 = false := fun a r d => by unfold upOf; split <;> simp
  have n0 : (0 : Int) ≤ (q.natAbs : Int) * p.natAbs := Int.mul_nonneg (by omega) (by omega)
  have d0 : (0 : Int) ≤ (q.natAbs : Int) * p.natAbs / ((1000000 : Int).natAbs : Int) := Int.ediv_nonneg n0 (by decide)
  unfold W mulDivS
  rw [if_neg (by omega)]
  simp only [m, u, Bool.false_eq_true, if_false, Int.add_zero]
  generalize (q.natAbs : Int) * p.natAbs / ((1000000 : Int).natAbs : Int) = z at d0 ⊢
  unfold signOf
  by_cases c : 9223372036854775808 < z ∨ (z = 9223372036854775808 ∧ false = false)
  · rw [if_pos c]; exact ⟨by decide, by decide⟩
  · rw [if_neg c]
    simp only [Bool.false_eq_true, if_false]
    have : ¬ z = 9223372036854775808 := fun e => c (.inr ⟨e, rfl⟩)
    have : ¬ 9223372036854775808 < z := fun e => c (.inl e)
    omega
theorem worth_ev {q p : Int} (q0 : 0 ≤ q) (q1 : q ≤ 1125899906842624) (p0 : 1 ≤ p) (p1 : p ≤ 4294967296) : Ev (fun k => asset_Worth.f k q p) (mulDivS q p 1000000 1) := by
  unfold asset_Worth.f
  simp only [if_neg (show ¬ q < 0 by omega), if_neg (show ¬ q > 1125899906842624 by omega), if_neg (show ¬ p < 1 by omega), if_neg (show ¬ p > 4294967296 by omega)]
  exact Ev.bind (PFix.muldiv_ev (by omega) (by omega) (by omega) (by omega) (by omega) (by omega)) (Ev.now _)
def plusS (a b : Int) : Int × Int := if a + b > 9223372036854775807 then (0, 9) else (a + b, 0)
theorem plus_eq {a b : Int} (a0 : 0 ≤ a) (a1 : a ≤ 9223372036854775807) (b0 : 0 ≤ b) (b1 : b ≤ 9223372036854775807) : fixnum_Plus.f a b = some (plusS a b) := by
  unfold fixnum_Plus.f plusS
  have w : a + b > 9223372036854775807 → wrap64 (a + b) < 0 := fun h => by unfold wrap64; omega
  have v : ¬ a + b > 9223372036854775807 → wrap64 (a + b) = a + b := fun h => by unfold wrap64; omega
  by_cases c : a + b > 9223372036854775807
  · rw [if_pos (by omega), if_pos (by omega), if_pos (w c), if_pos c]
  · rw [if_neg c, v c]
    by_cases x : a > 0
    · rw [if_pos x]
      by_cases y : b > 0
      · rw [if_pos y, if_neg (by omega), if_neg (by omega)]
      · rw [if_neg y, if_neg (by omega)]
    · rw [if_neg x, if_neg (by omega)]
theorem lchk_go (l : List Lot) (hl : l.length ≤ 64) : ∀ (n i : Nat), i + n = l.length → (∀ j (h : j < l.length), j < i → 1 ≤ l[j].f1 ∧ l[j].f1 ≤ 1125899906842624) → (∀ j (h : j + 1 < l.length), j + 1 < i → Op.bytesLess l[j].f0.toList l[j + 1].f0.toList = true) →
    ∃ r, Ev (fun k => lots_Check.l0 k l l (l.length : Int) (i : Int)) r ∧ Ev (fun k => q18q.l0 k l (i : Int)) r ∧ (r.2 = 0 → (∀ x ∈ l, 1 ≤ x.f1 ∧ x.f1 ≤ 1125899906842624) ∧ ∀ j (h : j + 1 < l.length), Op.bytesLess l[j].f0.toList l[j + 1].f0.toList = true)
  | 0, i, hi, hp, hs => by
    refine ⟨((l.length : Int), 0), Ev.step (f := fun _ => some ((l.length : Int), 0)) (fun k => ?_) (Ev.now _), Ev.step (f := fun _ => some ((l.length : Int), 0)) (fun k => ?_) (Ev.now _), fun _ => ⟨fun x hx => ?_, fun j h => hs j h (by omega)⟩⟩
    · simp only [lots_Check.l0]; rw [if_neg (by omega)]
    · simp only [q18q.l0]; rw [if_neg (by omega)]
    · obtain ⟨j, hj, rfl⟩ := List.mem_iff_getElem.1 hx; exact hp j hj (by omega)
  | n + 1, i, hi, hp, hs => by
    have h : i < l.length := by omega
    have c1 : (i : Int) < (l.length : Int) := by omega
    have c2 : (0 : Int) ≤ (i : Int) := by omega
    by_cases g : 1 ≤ l[i].f1 ∧ l[i].f1 ≤ 1125899906842624
    · have good : q25q.f l[i].f1 = some true := by unfold q25q.f; rw [if_pos (by omega), decide_eq_true g.2]
      have st : ∀ r, Ev (fun k => lots_Check.j1 k l (i : Int) l (l.length : Int) (i : Int) false l[i].f0 l[i].f1) r → Ev (fun k => lots_Check.l0 k l l (l.length : Int) (i : Int)) r := fun r e => by
        refine Ev.step (fun k => ?_) e
        simp only [lots_Check.l0, rdL h]
        rw [if_pos c1, if_pos c2, if_pos c1, if_neg (by omega), decide_eq_false (by omega)]
      have hp' : ∀ j (h : j < l.length), j < i + 1 → 1 ≤ l[j].f1 ∧ l[j].f1 ≤ 1125899906842624 := fun j hj hji => by
        rcases Nat.lt_or_ge j i with z | z
        · exact hp j hj z
        · obtain rfl : j = i := by omega
          exact g
      by_cases z : i = 0
      · subst z
        obtain ⟨r, a, b, c⟩ := lchk_go l hl n 1 (by omega) hp' (fun j hj hji => by omega)
        refine ⟨r, st r (Ev.step (fun k => ?_) a), Ev.step (fun k => ?_) b, c⟩
        · simp only [lots_Check.j1]
          rw [if_neg (by simp), if_neg (by omega), wsucc (by omega)]
        · simp only [q18q.l0, rdL h, good, Option.bind_some]
          rw [if_pos c1, if_pos c2, if_pos trivial, if_neg (by omega), wsucc (by omega)]
      · have hm : i - 1 < l.length := by omega
        have c3 : (i : Int) > 0 := by omega
        have c4 : (0 : Int) ≤ ((i - 1 : Nat) : Int) := by omega
        have c5 : ((i - 1 : Nat) : Int) < (l.length : Int) := by omega
        by_cases d : Op.bytesLess l[i - 1].f0.toList l[i].f0.toList = true
        · obtain ⟨r, a, b, c⟩ := lchk_go l hl n (i + 1) (by omega) hp' (fun j hj hji => by
            rcases Nat.lt_or_ge (j + 1) i with y | y
            · exact hs j hj y
            · obtain rfl : j = i - 1 := by omega
              have e : i - 1 + 1 = i := by omega
              simp only [e]
              exact d)
          refine ⟨r, st r (Ev.step (fun k => ?_) a), Ev.step (fun k => ?_) b, c⟩
          · simp only [lots_Check.j1]
            rw [wpred (n := i) (by omega) (by omega), rdL hm, if_neg (by simp), if_pos c3, if_pos c4, if_pos c5, if_pos d, wsucc (by omega)]
          · simp only [q18q.l0, rdL h, good, Option.bind_some]
            rw [wpred (n := i) (by omega) (by omega), rdL hm, if_pos c1, if_pos c2, if_pos trivial, if_pos c3, if_pos c4, if_pos c5, if_pos d, wsucc (by omega)]
        · refine ⟨((i : Int), 7), st _ (Ev.step (f := fun _ => some ((i : Int), 7)) (fun k => ?_) (Ev.now _)), Ev.step (f := fun _ => some ((i : Int), 7)) (fun k => ?_) (Ev.now _), fun e => by cases e⟩
          · simp only [lots_Check.j1]
            rw [wpred (n := i) (by omega) (by omega), rdL hm, if_neg (by simp), if_pos c3, if_pos c4, if_pos c5, if_neg d]
          · simp only [q18q.l0, rdL h, good, Option.bind_some]
            rw [wpred (n := i) (by omega) (by omega), rdL hm, if_pos c1, if_pos c2, if_pos trivial, if_pos c3, if_pos c4, if_pos c5, if_neg d]
    · have nogood : q25q.f l[i].f1 = some false := by
        unfold q25q.f
        by_cases a : l[i].f1 ≥ 1
        · rw [if_pos a, decide_eq_false (fun b => g ⟨a, b⟩)]
        · rw [if_neg a]
      have bad : Ev (fun k => lots_Check.j1 k l (i : Int) l (l.length : Int) (i : Int) true l[i].f0 l[i].f1) ((i : Int), 1) :=
        Ev.step (f := fun _ => some ((i : Int), 1)) (fun k => by simp only [lots_Check.j1]; rw [if_pos trivial]) (Ev.now _)
      refine ⟨((i : Int), 1), Ev.step (fun k => ?_) bad, Ev.step (f := fun _ => some ((i : Int), 1)) (fun k => ?_) (Ev.now _), fun e => by cases e⟩
      · simp only [lots_Check.l0, rdL h]
        rw [if_pos c1, if_pos c2, if_pos c1]
        by_cases a : l[i].f1 < 1
        · rw [if_pos a]
        · rw [if_neg a, decide_eq_true (by omega)]
      · simp only [q18q.l0, rdL h, nogood, Option.bind_some]
        rw [if_pos c1, if_pos c2, if_neg (by simp)]
theorem lchk_ev (l : List Lot) : ∃ r, Ev (fun k => lots_Check.f k l) r ∧ Ev (fun k => q18q.f k l) r ∧ (r.2 = 0 → l.length ≤ 64 ∧ (∀ x ∈ l, 1 ≤ x.f1 ∧ x.f1 ≤ 1125899906842624) ∧ ∀ j (h : j + 1 < l.length), Op.bytesLess l[j].f0.toList l[j + 1].f0.toList = true) := by
  by_cases c : (l.length : Int) > 64
  · exact ⟨(0, 2), by unfold lots_Check.f; simp only [if_pos c]; exact Ev.now _, by unfold q18q.f; simp only [if_pos c]; exact Ev.now _, fun h => by cases h⟩
  · obtain ⟨r, a, b, d⟩ := lchk_go l (by omega) l.length 0 (by omega) (fun j _ h => by omega) (fun j _ h => by omega)
    exact ⟨r, by unfold lots_Check.f; simp only [if_neg c]; exact a, by unfold q18q.f; simp only [if_neg c]; exact b, fun h => ⟨by omega, d h⟩⟩
end Go.Proofs.Ytlbhjkbjokiioaa.PAuct
end
section
namespace Go.Proofs.Ytlbhjkbjokiioaa.PAuct
open Go Go.RowKit Go.Proofs.Ytlbhjkbjokiioaa.X Go.Proofs.YtlbhjkbjokiioaaW.PrintWords Go.Proofs.YtlbhjkbjokiioaaW.PrintLast Go.Proofs.YtlbhjkbjokiioaaW.PrintMore Go.Stable Go.Proofs.Ytlbhjkbjokiioaa.PSort Go.Proofs.Ytlbhjkbjokiioaa.MDS
set_option linter.unusedVariables false
def lotS (id : ByteArray) : List Bid → Int → List Sold → Int → Option (Int × List Sold × Int)
  | [], rem, S, T => some (rem, S, T)
  | b :: bs, rem, S, T =>
    if rem = 0 then some (rem, S, T)
    else if T + W (mn b.f2 rem) b.f3 > 9223372036854775807 then none
    else lotS id bs (rem - mn b.f2 rem) (S ++ [⟨b.f0, id, mn b.f2 rem, W (mn b.f2 rem) b.f3⟩]) (T + W (mn b.f2 rem) b.f3)
def more (R : List Lot) (id : ByteArray) (r : Int) : List Lot := if r = 0 then R else R ++ [⟨id, r⟩]
def aucS (B : List Bid) : List Lot → List Sold → Int → List Lot → List Sold × Int × List Lot × Int
  | [], S, T, R => (S, T, R, 0)
  | l :: ls, S, T, R => match lotS l.f0 (B.filter (Of l.f0)) l.f1 S T with
    | none => ([], 0, [], 9)
    | some x => aucS B ls x.2.1 x.2.2 (more R l.f0 x.1)
theorem lotS_zero (id : ByteArray) (bs : List Bid) (S : List Sold) (T : Int) : lotS id bs 0 S T = some (0, S, T) := by
  cases bs <;> simp [lotS]
theorem lotS_bd (id : ByteArray) : ∀ (bs : List Bid) (rem : Int) (S : List Sold) (T : Int) {x}, (∀ b ∈ bs, Fine b) → 0 ≤ rem → 0 ≤ T → T ≤ 9223372036854775807 → lotS id bs rem S T = some x →
    0 ≤ x.1 ∧ x.1 ≤ rem ∧ x.2.1.length ≤ S.length + bs.length ∧ 0 ≤ x.2.2 ∧ x.2.2 ≤ 9223372036854775807
  | [], rem, S, T, x, hf, h0, t0, t1, h => by
    obtain rfl := Option.some.inj (show some (rem, S, T) = some x from h)
    exact ⟨h0, Int.le_refl _, by simp, t0, t1⟩
  | b :: bs, rem, S, T, x, hf, h0, t0, t1, h => by
    unfold lotS at h
    split at h
    · obtain rfl := Option.some.inj h
      exact ⟨h0, Int.le_refl _, by simp, t0, t1⟩
    · split at h
      · cases h
      · rename_i c d
        obtain ⟨⟨_, _⟩, ⟨f1, _⟩, f3, _⟩ := hf b (.head _)
        have m0 : 0 ≤ mn b.f2 rem ∧ mn b.f2 rem ≤ rem := by unfold mn; split <;> omega
        have w := W_bd (q := mn b.f2 rem) (p := b.f3) m0.1 f3
        obtain ⟨a1, a2, a3, a4, a5⟩ := lotS_bd id bs _ _ _ (fun y hy => hf y (.tail _ hy)) (by omega) (by omega) (by omega) h
        refine ⟨a1, by omega, ?_, a4, a5⟩
        rw [List.length_append] at a3
        simp at a3 ⊢
        omega
theorem aucS_bd (B : List Bid) (hf : ∀ b ∈ B, Fine b) : ∀ (ls : List Lot) (S : List Sold) (T : Int) (R : List Lot), (∀ x ∈ ls, 1 ≤ x.f1 ∧ x.f1 ≤ 1125899906842624) → 0 ≤ T → T ≤ 9223372036854775807 →
    (aucS B ls S T R).1.length ≤ S.length + ls.length * B.length ∧ (aucS B ls S T R).2.2.1.length ≤ R.length + ls.length
  | [], S, T, R, hp, t0, t1 => by simp [aucS]
  | l :: ls, S, T, R, hp, t0, t1 => by
    unfold aucS
    cases hz : lotS l.f0 (B.filter (Of l.f0)) l.f1 S T with
    | none => simp
    | some x =>
      have hx := hp l (.head _)
      obtain ⟨b1, b2, b3, b4, b5⟩ := lotS_bd l.f0 (B.filter (Of l.f0)) l.f1 S T (fun b hb => hf b (List.mem_filter.1 hb).1) (by omega) t0 t1 hz
      have fl : (B.filter (Of l.f0)).length ≤ B.length := List.length_filter_le ..
      have ih := aucS_bd B hf ls x.2.1 x.2.2 (more R l.f0 x.1) (fun y hy => hp y (.tail _ hy)) b4 b5
      have mr : (more R l.f0 x.1).length ≤ R.length + 1 := by unfold more; split <;> simp
      rw [List.length_cons, Nat.add_mul, Nat.one_mul]
      exact ⟨by show (aucS B ls x.2.1 x.2.2 (more R l.f0 x.1)).1.length ≤ _; omega, by show (aucS B ls x.2.1 x.2.2 (more R l.f0 x.1)).2.2.1.length ≤ _; omega⟩
def Ans (id : ByteArray) (bs : List Bid) (rem : Int) (S : List Sold) (T : Int) (bad : Prop) (P : Int → List Sold → Int → Prop) : Prop :=
  match lotS id bs rem S T with
  | none => bad
  | some x => P x.1 x.2.1 x.2.2
theorem mn_bd {a b : Int} (a1 : 1 ≤ a) (b0 : 0 ≤ b) : 0 ≤ mn a b ∧ mn a b ≤ b ∧ mn a b ≤ a := by unfold mn; split <;> omega
theorem prog_in (B : List Bid) (hB : B.length ≤ 300) (hf : ∀ b ∈ B, Fine b) (R ls : List Lot) (n0 j : Int) (id : ByteArray) {res : List Sold × Int × List Lot × Int} : ∀ (n i : Nat) (rem : Int) (S : List Sold) (T : Int), i + n = B.length → 0 ≤ rem → rem ≤ 1125899906842624 → 0 ≤ T → T ≤ 9223372036854775807 → S.length ≤ 1000000 + i →
    Ans id ((B.drop i).filter (Of id)) rem S T (res = ([], 0, [], 9)) (fun r' S' T' => Ev (fun k => close_Auction.l1 k (B.map toE) S' R T' ls n0 j (B.map toE) (B.length : Int) (B.length : Int) id r') res) →
    Ev (fun k => close_Auction.l1 k (B.map toE) S R T ls n0 j (B.map toE) (B.length : Int) (i : Int) id rem) res
  | 0, i, rem, S, T, hi, r0, r1, t0, t1, hS, h => by
    rw [List.drop_of_length_le (by omega)] at h
    obtain rfl : i = B.length := by omega
    exact h
  | n + 1, i, rem, S, T, hi, r0, r1, t0, t1, hS, h => by
    have hb : i < B.length := by omega
    have he : i < (B.map toE).length := by simp; omega
    rw [List.drop_eq_getElem_cons hb] at h
    have e : rd_T79 (B.map toE) (i : Int) = toE B[i] := by rw [rdE he, List.getElem_map]
    have el : ((B.map toE).length : Int) = (B.length : Int) := by rw [List.length_map]
    have skip : Ans id ((B.drop (i + 1)).filter (Of id)) rem S T (res = ([], 0, [], 9)) (fun r' S' T' => Ev (fun k => close_Auction.l1 k (B.map toE) S' R T' ls n0 j (B.map toE) (B.length : Int) (B.length : Int) id r') res) → Ev (fun k => close_Auction.j2 k (B.map toE) S R T ls n0 j (B.map toE) (B.length : Int) (i : Int) true id rem B[i].f0 B[i].f1 B[i].f2 B[i].f3) res := fun h => by
      refine Ev.step (fun k => ?_) (prog_in B hB hf R ls n0 j id n (i + 1) rem S T (by omega) r0 r1 t0 t1 (by omega) h)
      simp only [close_Auction.j2]
      rw [if_pos trivial, wsucc (by omega)]
    refine Ev.step (f := fun k => if B[i].f1.toList = id.toList then close_Auction.j2 k (B.map toE) S R T ls n0 j (B.map toE) (B.length : Int) (i : Int) (rem == 0) id rem B[i].f0 B[i].f1 B[i].f2 B[i].f3 else close_Auction.j2 k (B.map toE) S R T ls n0 j (B.map toE) (B.length : Int) (i : Int) true id rem B[i].f0 B[i].f1 B[i].f2 B[i].f3) (fun k => ?_) ?_
    · simp only [close_Auction.l1]
      rw [if_pos (by omega), if_pos (by omega), el, if_pos (by omega), e]
      rfl
    by_cases c : B[i].f1.toList = id.toList
    · rw [List.filter_cons_of_pos (show Of id B[i] = true from decide_eq_true c)] at h
      simp only [if_pos c]
      by_cases z : rem = 0
      · subst z
        refine skip ?_
        unfold Ans at h ⊢
        rw [lotS_zero] at h ⊢
        exact h
      · obtain ⟨⟨_, _⟩, ⟨f1, f2⟩, f3, f4⟩ := hf B[i] (List.getElem_mem hb)
        have m := mn_bd (a := B[i].f2) (b := rem) f1 r0
        have w := W_bd (q := mn B[i].f2 rem) (p := B[i].f3) m.1 f3
        refine Ev.step (f := fun k => (asset_Worth.f k (mn B[i].f2 rem) B[i].f3).bind fun bt => if T + bt.1 > 9223372036854775807 then some ([], 0, [], 9) else close_Auction.l1 k (B.map toE) (S ++ [⟨B[i].f0, id, mn B[i].f2 rem, bt.1⟩]) R (T + bt.1) ls n0 j (B.map toE) (B.length : Int) ((i + 1 : Nat) : Int) id (rem - mn B[i].f2 rem)) (fun k => ?_) (Ev.bind (worth_ev m.1 (by omega) f3 f4) ?_)
        · simp only [close_Auction.j2]
          rw [if_neg (by simpa using z), wsucc (by omega), show wrap64 (rem - mn B[i].f2 rem) = rem - mn B[i].f2 rem by unfold wrap64; omega]
          have hw := worth_ev (q := mn B[i].f2 rem) (p := B[i].f3) m.1 (by omega) f3 f4
          cases hv : asset_Worth.f k (mn B[i].f2 rem) B[i].f3 with
          | none => rfl
          | some v =>
            have : v = mulDivS (mn B[i].f2 rem) B[i].f3 1000000 1 := by
              obtain ⟨K, hK⟩ := hw
              have h1 := hK (max K k) (by omega)
              have h2 : asset_Worth.f (max K k) (mn B[i].f2 rem) B[i].f3 = some v := by
                have : ∀ d, asset_Worth.f (k + d) (mn B[i].f2 rem) B[i].f3 = some v := fun d => by
                  induction d with
                  | zero => exact hv
                  | succ d ih => exact asset_Worth.mono _ _ _ _ ih
                have := this (max K k - k)
                rwa [show k + (max K k - k) = max K k by omega] at this
              exact Option.some.inj (h2.symm.trans h1)
            subst this
            simp only [Option.bind_some]
            rw [show (mulDivS (mn B[i].f2 rem) B[i].f3 1000000 1).fst = W (mn B[i].f2 rem) B[i].f3 from rfl, plus_eq t0 t1 w.1 w.2]
            simp only [Option.bind_some]
            unfold plusS
            by_cases o : T + W (mn B[i].f2 rem) B[i].f3 > 9223372036854775807
            · rw [if_pos o, if_pos o, if_neg (by decide)]
            · rw [if_neg o, if_neg o, if_pos rfl, if_pos (by omega)]
        · show Ev (fun k => if T + W (mn B[i].f2 rem) B[i].f3 > 9223372036854775807 then some ([], 0, [], 9) else close_Auction.l1 k (B.map toE) (S ++ [⟨B[i].f0, id, mn B[i].f2 rem, W (mn B[i].f2 rem) B[i].f3⟩]) R (T + W (mn B[i].f2 rem) B[i].f3) ls n0 j (B.map toE) (B.length : Int) ((i + 1 : Nat) : Int) id (rem - mn B[i].f2 rem)) res
          unfold Ans lotS at h
          rw [if_neg z] at h
          by_cases o : T + W (mn B[i].f2 rem) B[i].f3 > 9223372036854775807
          · rw [if_pos o] at h
            simp only [if_pos o]
            rw [show res = _ from h]
            exact Ev.now _
          · rw [if_neg o] at h
            simp only [if_neg o]
            exact prog_in B hB hf R ls n0 j id n (i + 1) _ _ _ (by omega) (by omega) (by omega) (by omega) (by omega) (by simp; omega) h
    · rw [List.filter_cons_of_neg (show ¬ Of id B[i] = true from by simpa [Of] using c)] at h
      simp only [if_neg c]
      exact skip h
end Go.Proofs.Ytlbhjkbjokiioaa.PAuct
end
section
namespace Go.Proofs.Ytlbhjkbjokiioaa.PAuct
open Go Go.RowKit Go.Proofs.Ytlbhjkbjokiioaa.X Go.Proofs.YtlbhjkbjokiioaaW.PrintWords Go.Proofs.YtlbhjkbjokiioaaW.PrintLast Go.Proofs.YtlbhjkbjokiioaaW.PrintMore Go.Stable Go.Proofs.Ytlbhjkbjokiioaa.PSort Go.Proofs.Ytlbhjkbjokiioaa.MDS
set_option linter.unusedVariables false
theorem prog_out (B : List Bid) (hB : B.length ≤ 300) (hf : ∀ b ∈ B, Fine b) (ls : List Lot) (hl : ls.length ≤ 80) (hp : ∀ x ∈ ls, 1 ≤ x.f1 ∧ x.f1 ≤ 1125899906842624) : ∀ (n i : Nat) (S : List Sold) (T : Int) (R : List Lot), i + n = ls.length → S.length ≤ 300 * i → R.length ≤ i → 0 ≤ T → T ≤ 9223372036854775807 →
    Ev (fun k => close_Auction.l0 k (B.map toE) S R T ls (ls.length : Int) (i : Int)) (aucS B (ls.drop i) S T R)
  | 0, i, S, T, R, hi, hS, hR, t0, t1 => by
    rw [List.drop_of_length_le (by omega)]
    refine Ev.step (f := fun _ => some (S, T, R, 0)) (fun k => ?_) (Ev.now _)
    simp only [close_Auction.l0]
    rw [if_neg (by omega)]
  | n + 1, i, S, T, R, hi, hS, hR, t0, t1 => by
    have h : i < ls.length := by omega
    have hx := hp ls[i] (List.getElem_mem h)
    rw [List.drop_eq_getElem_cons h]
    refine Ev.step (f := fun k => close_Auction.l1 k (B.map toE) S R T ls (ls.length : Int) (i : Int) (B.map toE) (B.length : Int) ((0 : Nat) : Int) ls[i].f0 ls[i].f1) (fun k => ?_) ?_
    · simp only [close_Auction.l0]
      rw [if_pos (by omega), if_pos (by omega), if_pos (by omega), rdL h, List.length_map]
      rfl
    refine prog_in B hB hf R ls _ _ ls[i].f0 B.length 0 ls[i].f1 S T (by omega) (by omega) hx.2 t0 t1 (by omega) ?_
    rw [List.drop_zero]
    unfold Ans aucS
    cases hz : lotS ls[i].f0 (B.filter (Of ls[i].f0)) ls[i].f1 S T with
    | none => rfl
    | some x =>
      obtain ⟨b1, b2, b3, b4, b5⟩ := lotS_bd ls[i].f0 (B.filter (Of ls[i].f0)) ls[i].f1 S T (fun b hb => hf b (List.mem_filter.1 hb).1) (by omega) t0 t1 hz
      have fl : (B.filter (Of ls[i].f0)).length ≤ B.length := List.length_filter_le ..
      have ih := prog_out B hB hf ls hl hp n (i + 1) x.2.1 x.2.2 (more R ls[i].f0 x.1) (by omega) (by omega) (by unfold more; split <;> (try rw [List.length_append]) <;> (try simp only [List.length_cons, List.length_nil]) <;> omega) b4 b5
      show Ev (fun k => close_Auction.l1 k (B.map toE) x.2.1 R x.2.2 ls (ls.length : Int) (i : Int) (B.map toE) (B.length : Int) (B.length : Int) ls[i].f0 x.1) (aucS B (ls.drop (i + 1)) x.2.1 x.2.2 (more R ls[i].f0 x.1))
      refine Ev.step (fun k => ?_) ih
      simp only [close_Auction.l1]
      rw [if_neg (by omega), wsucc (by omega)]
      unfold more
      by_cases z : x.1 = 0
      · rw [if_neg (by omega), if_pos z]
      · rw [if_pos (by omega), if_pos (by omega), if_neg z]
end Go.Proofs.Ytlbhjkbjokiioaa.PAuct
end
section
namespace Go.Proofs.Ytlbhjkbjokiioaa.PAuct
open Go Go.RowKit Go.Proofs.Ytlbhjkbjokiioaa.X Go.Proofs.YtlbhjkbjokiioaaW.PrintWords Go.Proofs.YtlbhjkbjokiioaaW.PrintLast Go.Proofs.YtlbhjkbjokiioaaW.PrintMore Go.Stable Go.Proofs.Ytlbhjkbjokiioaa.PSort Go.Proofs.Ytlbhjkbjokiioaa.MDS
set_option linter.unusedVariables false
theorem mg_perm {α : Type} (le : α → α → Bool) : ∀ (U V : List α), (mg le U V).Perm (U ++ V)
  | [], V => by simp [mg]
  | u :: U, [] => by simp [mg]
  | u :: U, v :: V => by
    rw [mg]
    by_cases c : le u v = true
    · rw [if_pos c]; exact (mg_perm le U (v :: V)).cons u
    · rw [if_neg c]; exact ((mg_perm le (u :: U) V).cons v).trans List.perm_middle.symm
termination_by U V => U.length + V.length
theorem isort_perm {α : Type} (le : α → α → Bool) (L : List α) : (isort le L).Perm L := by
  have : ∀ (L R : List α), (L.foldl (insS le) R).Perm (R ++ L) := by
    intro L
    induction L with
    | nil => intro R; simp
    | cons x L ih =>
      intro R
      rw [List.foldl_cons]
      have h := (ih (insS le R x)).trans ((mg_perm le R [x]).append_right L)
      simpa using h
  exact this L []
end Go.Proofs.Ytlbhjkbjokiioaa.PAuct
end
section
namespace Go.Proofs.Ytlbhjkbjokiioaa.PAuct
open Go Go.RowKit Go.Proofs.Ytlbhjkbjokiioaa.X Go.Proofs.YtlbhjkbjokiioaaW.PrintWords Go.Proofs.YtlbhjkbjokiioaaW.PrintLast Go.Proofs.YtlbhjkbjokiioaaW.PrintMore Go.Stable Go.Proofs.Ytlbhjkbjokiioaa.PSort Go.Proofs.Ytlbhjkbjokiioaa.MDS
set_option linter.unusedVariables false
abbrev Nm := List UInt8
def soldOf (n : Nm) : List Sold → Int
  | [] => 0
  | d :: r => (if d.f1.toList = n then d.f2 else 0) + soldOf n r
def worthOf : List Sold → Int
  | [] => 0
  | d :: r => d.f3 + worthOf r
def restOf (n : Nm) : List Lot → Int
  | [] => 0
  | x :: r => if x.f0.toList = n then x.f1 else restOf n r
theorem soldOf_app (n : Nm) : ∀ (a b : List Sold), soldOf n (a ++ b) = soldOf n a + soldOf n b
  | [], b => by simp [soldOf]
  | x :: a, b => by rw [List.cons_append, soldOf, soldOf, soldOf_app n a b]; omega
theorem worthOf_app : ∀ (a b : List Sold), worthOf (a ++ b) = worthOf a + worthOf b
  | [], b => by simp [worthOf]
  | x :: a, b => by rw [List.cons_append, worthOf, worthOf, worthOf_app a b]; omega
def To (d : Sold) (b : Bid) : Prop := b.f0 = d.f0 ∧ b.f1.toList = d.f1.toList ∧ 0 ≤ d.f2 ∧ d.f2 ≤ b.f2 ∧ d.f3 = W d.f2 b.f3 ∧ 0 ≤ d.f3
theorem soldOf_nonneg (n : Nm) : ∀ (D : List Sold), (∀ d ∈ D, 0 ≤ d.f2) → 0 ≤ soldOf n D
  | [], _ => by simp [soldOf]
  | d :: r, h => by
    have := h d (.head _); have := soldOf_nonneg n r (fun x hx => h x (.tail _ hx))
    unfold soldOf; split <;> omega
theorem worthOf_nonneg : ∀ (D : List Sold), (∀ d ∈ D, 0 ≤ d.f3) → 0 ≤ worthOf D
  | [], _ => by simp [worthOf]
  | d :: r, h => by
    have := h d (.head _); have := worthOf_nonneg r (fun x hx => h x (.tail _ hx))
    unfold worthOf; omega
theorem lotS_rel (id : ByteArray) : ∀ (bs : List Bid) (rem : Int) (S : List Sold) (T : Int) {x}, (∀ b ∈ bs, Fine b ∧ b.f1.toList = id.toList) → 0 ≤ rem → lotS id bs rem S T = some x →
    ∃ D, x.2.1 = S ++ D ∧ (∀ d ∈ D, d.f1 = id ∧ ∃ b ∈ bs, To d b) ∧ (∀ n, soldOf n D = if id.toList = n then rem - x.1 else 0) ∧ x.2.2 = T + worthOf D
  | [], rem, S, T, x, hf, h0, h => by
    obtain rfl := Option.some.inj (show some (rem, S, T) = some x from h)
    exact ⟨[], by simp, (fun d hd => by cases hd), fun n => by simp [soldOf], by simp [worthOf]⟩
  | b :: bs, rem, S, T, x, hf, h0, h => by
    unfold lotS at h
    split at h
    · obtain rfl := Option.some.inj h
      exact ⟨[], by simp, (fun d hd => by cases hd), fun n => by simp [soldOf], by simp [worthOf]⟩
    · split at h
      · cases h
      · obtain ⟨⟨⟨_, _⟩, ⟨f1, _⟩, f3, _⟩, hn⟩ := hf b (.head _)
        have m := mn_bd (a := b.f2) (b := rem) f1 h0
        obtain ⟨D, e1, e2, e3, e4⟩ := lotS_rel id bs _ _ _ (fun y hy => hf y (.tail _ hy)) (by omega) h
        refine ⟨⟨b.f0, id, mn b.f2 rem, W (mn b.f2 rem) b.f3⟩ :: D, by rw [e1]; simp, fun d hd => ?_, fun n => ?_, by rw [e4, worthOf]; show _ = T + (W (mn b.f2 rem) b.f3 + worthOf D); omega⟩
        · rcases List.mem_cons.1 hd with rfl | hd
          · exact ⟨rfl, b, .head _, rfl, hn, m.1, m.2.2, rfl, (W_bd m.1 f3).1⟩
          · obtain ⟨a1, y, hy, a2⟩ := e2 d hd
            exact ⟨a1, y, .tail _ hy, a2⟩
        · rw [soldOf, e3 n]
          show (if id.toList = n then mn b.f2 rem else 0) + _ = _
          split <;> omega
def Names (ls : List Lot) : Prop := ls.Pairwise (fun x y => x.f0.toList ≠ y.f0.toList)
theorem restOf_more (R : List Lot) (E : List Lot) (id : ByteArray) (r : Int) (n : Nm) : restOf n ((more [] id r) ++ E) = if id.toList = n ∧ r ≠ 0 then r else restOf n E := by
  unfold more
  by_cases z : r = 0
  · rw [if_pos z, if_neg (fun h => h.2 z)]; rfl
  · rw [if_neg z]
    show (if id.toList = n then r else restOf n E) = _
    by_cases c : id.toList = n
    · rw [if_pos c, if_pos ⟨c, z⟩]
    · rw [if_neg c, if_neg (fun h => c h.1)]
theorem aucS_rel (B : List Bid) (hf : ∀ b ∈ B, Fine b) : ∀ (ls : List Lot) (S : List Sold) (T : Int) (R : List Lot), Names ls → (∀ x ∈ ls, 1 ≤ x.f1 ∧ x.f1 ≤ 1125899906842624) → 0 ≤ T → T ≤ 9223372036854775807 → (aucS B ls S T R).2.2.2 = 0 →
    ∃ D E, (aucS B ls S T R).1 = S ++ D ∧ (aucS B ls S T R).2.2.1 = R ++ E ∧ (aucS B ls S T R).2.1 = T + worthOf D ∧ (aucS B ls S T R).2.1 ≤ 9223372036854775807 ∧ (∀ d ∈ D, ∃ b ∈ B, To d b) ∧
      (∀ x ∈ ls, restOf x.f0.toList E + soldOf x.f0.toList D = x.f1 ∧ 0 ≤ restOf x.f0.toList E) ∧ (∀ n, (∀ x ∈ ls, x.f0.toList ≠ n) → restOf n E = 0 ∧ soldOf n D = 0)
  | [], S, T, R, hN, hp, t0, t1, hc => ⟨[], [], by simp [aucS], by simp [aucS], by simp [aucS, worthOf], t1, (fun d hd => by cases hd), (fun x hx => by cases hx), fun n _ => ⟨rfl, rfl⟩⟩
  | l :: ls, S, T, R, hN, hp, t0, t1, hc => by
    obtain ⟨hl, hN'⟩ := List.pairwise_cons.1 hN
    unfold aucS at hc ⊢
    cases hz : lotS l.f0 (B.filter (Of l.f0)) l.f1 S T with
    | none => rw [hz] at hc; cases hc
    | some x =>
      rw [hz] at hc
      have hx := hp l (.head _)
      obtain ⟨b1, b2, b3, b4, b5⟩ := lotS_bd l.f0 (B.filter (Of l.f0)) l.f1 S T (fun b hb => hf b (List.mem_filter.1 hb).1) (by omega) t0 t1 hz
      obtain ⟨D1, d1, d2, d3, d4⟩ := lotS_rel l.f0 (B.filter (Of l.f0)) l.f1 S T (fun b hb => ⟨hf b (List.mem_filter.1 hb).1, of_decide_eq_true (List.mem_filter.1 hb).2⟩) (by omega) hz
      obtain ⟨D, E, e1, e2, e3, e4, e5, e6, e7⟩ := aucS_rel B hf ls x.2.1 x.2.2 (more R l.f0 x.1) hN' (fun y hy => hp y (.tail _ hy)) b4 b5 hc
      have mr : more R l.f0 x.1 = R ++ more [] l.f0 x.1 := by unfold more; split <;> simp
      obtain ⟨z1, z2⟩ := e7 l.f0.toList (fun y hy => (hl y hy).symm)
      refine ⟨D1 ++ D, more [] l.f0 x.1 ++ E, by rw [← List.append_assoc, ← d1]; exact e1, by rw [← List.append_assoc, ← mr]; exact e2, by rw [worthOf_app]; show (aucS B ls x.2.1 x.2.2 (more R l.f0 x.1)).2.1 = _; rw [e3, d4]; omega, e4, fun d hd => ?_, fun y hy => ?_, fun n hn => ?_⟩
      · rcases List.mem_append.1 hd with hd | hd
        · obtain ⟨_, b, hb, h⟩ := d2 d hd
          exact ⟨b, (List.mem_filter.1 hb).1, h⟩
        · exact e5 d hd
      · rw [restOf_more [] E, soldOf_app, d3]
        rcases List.mem_cons.1 hy with rfl | hy
        · rw [if_pos rfl, z2]
          by_cases c : x.1 = 0
          · rw [if_neg (fun h => h.2 c), z1]; omega
          · rw [if_pos ⟨rfl, c⟩]; omega
        · have := hl y hy
          rw [if_neg (fun h => this h.1), if_neg this]
          have := e6 y hy
          omega
      · have h1 := hn l (.head _)
        obtain ⟨y1, y2⟩ := e7 n (fun y hy => hn y (.tail _ hy))
        rw [restOf_more [] E, soldOf_app, d3, if_neg (fun h => h1 h.1), if_neg h1, y1, y2]
        exact ⟨rfl, rfl⟩
theorem worth_up {q p : Int} (q0 : 0 ≤ q) (q1 : q ≤ 1125899906842624) (p0 : 1 ≤ p) (p1 : p ≤ 4294967296) : (mulDivS q p 1000000 2).2 = 0 ∧ W q p ≤ (mulDivS q p 1000000 2).1 := by
  have m : minusOf q p 1000000 = false := by unfold minusOf; rw [decide_eq_false (by omega), decide_eq_false (by omega)]; rfl
  have u : ∀ a r d, upOf false a r d 1 = false := fun a r d => by unfold upOf; split <;> simp
  have n0 : (0 : Int) ≤ (q.natAbs : Int) * p.natAbs := Int.mul_nonneg (by omega) (by omega)
  have n1 : (q.natAbs : Int) * p.natAbs ≤ 1125899906842624 * 4294967296 := Int.mul_le_mul (by omega) (by omega) (by omega) (by omega)
  have d0 : (0 : Int) ≤ (q.natAbs : Int) * p.natAbs / ((1000000 : Int).natAbs : Int) := Int.ediv_nonneg n0 (by decide)
  have d1 : (q.natAbs : Int) * p.natAbs / ((1000000 : Int).natAbs : Int) ≤ 4835703278458516699 := by
    have : ((1000000 : Int).natAbs : Int) = 1000000 := rfl
    rw [this]; omega
  unfold W mulDivS
  rw [if_neg (by omega), if_neg (by omega)]
  simp only [m, u, Bool.false_eq_true, if_false, Int.add_zero]
  have s : ∀ z : Int, 0 ≤ z → z ≤ 4835703278458516700 → signOf false z = (z, 0) := fun z z0 z1 => by
    unfold signOf
    rw [if_neg (by rintro (h | ⟨h, _⟩) <;> omega), if_neg (by simp)]
  generalize (q.natAbs : Int) * p.natAbs / ((1000000 : Int).natAbs : Int) = z at d0 d1 ⊢
  rw [s z d0 (by omega)]
  split
  · rw [s (z + 1) (by omega) (by omega)]; exact ⟨rfl, by show z ≤ z + 1; omega⟩
  · rw [s (z + 0) (by omega) (by omega)]; exact ⟨rfl, by show z ≤ z + 0; omega⟩
end Go.Proofs.Ytlbhjkbjokiioaa.PAuct
end
section
namespace Go.Proofs.Ytlbhjkbjokiioaa.PAuct
open Go Go.RowKit Go.Proofs.Ytlbhjkbjokiioaa.X Go.Proofs.YtlbhjkbjokiioaaW.PrintWords Go.Proofs.YtlbhjkbjokiioaaW.PrintLast Go.Proofs.YtlbhjkbjokiioaaW.PrintMore Go.Stable Go.Proofs.Ytlbhjkbjokiioaa.PSort Go.Proofs.Ytlbhjkbjokiioaa.MDS
set_option linter.unusedVariables false
theorem less_irrefl : ∀ a : Nm, ¬ Op.bytesLess a a = true
  | [] => by simp [Op.bytesLess]
  | x :: r => by
    have := less_irrefl r
    simp [Op.bytesLess, this]
theorem less_trans : ∀ {a b c : Nm}, Op.bytesLess a b = true → Op.bytesLess b c = true → Op.bytesLess a c = true
  | [], [], _, h, _ => by simp [Op.bytesLess] at h
  | [], _ :: _, [], _, h => by simp [Op.bytesLess] at h
  | [], _ :: _, _ :: _, _, _ => by simp [Op.bytesLess]
  | _ :: _, [], _, h, _ => by simp [Op.bytesLess] at h
  | _ :: _, _ :: _, [], _, h => by simp [Op.bytesLess] at h
  | x :: a, y :: b, z :: c, h1, h2 => by
    have ih := @less_trans a b c
    simp only [Op.bytesLess, Bool.or_eq_true, Bool.and_eq_true, decide_eq_true_eq, beq_iff_eq] at h1 h2 ⊢
    rcases h1 with h1 | ⟨rfl, h1⟩ <;> rcases h2 with h2 | ⟨rfl, h2⟩
    · exact .inl (UInt8.lt_trans h1 h2)
    · exact .inl h1
    · exact .inl h2
    · exact .inr ⟨rfl, ih h1 h2⟩
theorem names_of : ∀ {l : List Lot}, (∀ j (h : j + 1 < l.length), Op.bytesLess l[j].f0.toList l[j + 1].f0.toList = true) → l.Pairwise (fun x y => Op.bytesLess x.f0.toList y.f0.toList = true)
  | [], _ => List.Pairwise.nil
  | [x], _ => by simp
  | x :: y :: r, h => by
    have ih : (y :: r).Pairwise (fun x y => Op.bytesLess x.f0.toList y.f0.toList = true) := names_of fun j hj => h (j + 1) (by simp at hj ⊢; omega)
    have xy : Op.bytesLess x.f0.toList y.f0.toList = true := h 0 (by simp)
    refine List.pairwise_cons.2 ⟨fun z hz => ?_, ih⟩
    rcases List.mem_cons.1 hz with rfl | hz'
    · exact xy
    · exact less_trans xy ((List.pairwise_cons.1 ih).1 z hz')
theorem aucS_bad (B : List Bid) : ∀ (ls : List Lot) (S : List Sold) (T : Int) (R : List Lot), (aucS B ls S T R).2.2.2 ≠ 0 → aucS B ls S T R = ([], 0, [], 9)
  | [], S, T, R, h => absurd rfl h
  | l :: ls, S, T, R, h => by
    unfold aucS at h ⊢
    cases hz : lotS l.f0 (B.filter (Of l.f0)) l.f1 S T with
    | none => rfl
    | some x => rw [hz] at h; exact aucS_bad B ls _ _ _ h
theorem prog_all (ls : List Lot) (L : List Bid) (hL : L.length ≤ 300) : ∃ r : List Sold × Int × List Lot × Int, Ev (fun k => close_Auction.f k ls (L.map toE)) r ∧
    ((r.2.2.2 ≠ 0 ∧ r.1 = [] ∧ r.2.1 = 0 ∧ r.2.2.1 = []) ∨
     (r.2.2.2 = 0 ∧ ls.length ≤ 64 ∧ r.1.length ≤ 30000 ∧ r.2.2.1.length ≤ 100 ∧ (∀ x ∈ ls, x.f1 ≤ 1125899906842624) ∧ (∀ b ∈ L, Fine b) ∧ r.2.1 = worthOf r.1 ∧ r.2.1 ≤ 9223372036854775807 ∧ (∀ d ∈ r.1, ∃ b ∈ L, To d b) ∧
      (∀ x ∈ ls, restOf x.f0.toList r.2.2.1 + soldOf x.f0.toList r.1 = x.f1 ∧ 0 ≤ restOf x.f0.toList r.2.2.1))) := by
  obtain ⟨c, c1, c2, c3⟩ := lchk_ev ls
  unfold close_Auction.f
  by_cases z : c.2 = 0
  · obtain ⟨hl, hp, hs⟩ := c3 z
    by_cases v : (if L.length > 256 then (2 : Int) else wrongS L) = 0
    · have v' : wrongS L = 0 := by
        split at v
        · cases v
        · exact v
      have hf := wrong_fine v'
      have pm := isort_perm leR L
      have il : (isort leR L).length = L.length := pm.length_eq
      have hf' : ∀ b ∈ isort leR L, Fine b := fun b hb => hf b (pm.mem_iff.1 hb)
      have p := prog_out (isort leR L) (by omega) hf' ls (by omega) hp ls.length 0 [] 0 [] (by omega) (by simp) (by simp) (by omega) (by omega)
      have bd := aucS_bd (isort leR L) hf' ls [] 0 [] hp (by omega) (by omega)
      rw [List.drop_zero] at p
      refine ⟨aucS (isort leR L) ls [] 0 [], Ev.bind c1 ?_, ?_⟩
      · simp only [if_pos z]
        refine Ev.bind (check_ev L hL) ?_
        simp only [if_pos v]
        refine Ev.bind (a := L.map toE) (by unfold q22q.f; simp only [Option.bind_some, List.nil_append, List.length_nil, List.length_map, if_pos (show 0 + L.length < 3518437208883 by omega)]; exact Ev.now _) ?_
        refine Ev.bind (sort_f (L.map toE) (by unfold Big; rw [List.length_map]; omega)) ?_
        rw [← isort_map]
        exact p
      · by_cases q : (aucS (isort leR L) ls [] 0 []).2.2.2 = 0
        · obtain ⟨D, E, e1, e2, e3, e4, e5, e6, e7⟩ := aucS_rel (isort leR L) hf' ls [] 0 [] (show Names ls from (names_of hs).imp (fun {a b} h (e : a.f0.toList = b.f0.toList) => less_irrefl b.f0.toList (by rw [e] at h; exact h))) hp (by omega) (by omega) q
          rw [List.nil_append] at e1 e2
          refine .inr ⟨q, hl, ?_, ?_, fun x hx => (hp x hx).2, hf, by rw [e3, e1]; omega, e4, fun d hd => ?_, fun x hx => ?_⟩
          · have h1 := bd.1
            rw [il, List.length_nil] at h1
            have : ls.length * L.length ≤ 64 * 300 := Nat.mul_le_mul (by omega) hL
            omega
          · have h1 := bd.2; rw [List.length_nil] at h1; omega
          · obtain ⟨b, hb, h⟩ := e5 d (by rw [← e1]; exact hd)
            exact ⟨b, pm.mem_iff.1 hb, h⟩
          · rw [e1, e2]; exact e6 x hx
        · have h := aucS_bad _ _ _ _ _ q
          exact .inl ⟨q, by rw [h], by rw [h], by rw [h]⟩
    · refine ⟨([], 0, [], if L.length > 256 then 2 else wrongS L), Ev.bind c1 ?_, .inl ⟨v, rfl, rfl, rfl⟩⟩
      simp only [if_pos z]
      refine Ev.bind (check_ev L hL) ?_
      simp only [if_neg v]
      exact Ev.now _
  · refine ⟨([], 0, [], c.2), Ev.bind c1 ?_, .inl ⟨z, rfl, rfl, rfl⟩⟩
    simp only [if_neg z]; exact Ev.now _
end Go.Proofs.Ytlbhjkbjokiioaa.PAuct
end
