-- a shortened text: what this claim does not name is left out (wip/xprint/prune.py of this repo)
import Derived.Test.YtkdbolhheodfkaaPCalC
import Derived.Test.YtkdbolhheodfkaaX10
namespace Go.Proofs.Ytkdbolhheodfkaa.PCal
open Go Go.RowKit Go.Proofs.Ytkdbolhheodfkaa.X Go.Proofs.YtkdbolhheodfkaaW.PrintWords Go.Proofs.YtkdbolhheodfkaaW.PrintLast Go.Proofs.YtkdbolhheodfkaaW.PrintMore
theorem mem_compactUpTo (d : Array Int) : ∀ m, ∀ j, j < m → d[j]! ∈ Lib.compactUpTo d m
  | 0, j, h => absurd h (by omega)
  | m + 1, j, h => by
    rw [Lib.compactUpTo_succ]
    by_cases c : j < m
    · exact List.mem_append.2 (.inl (mem_compactUpTo d m j c))
    · obtain rfl : j = m := by omega
      by_cases q : Lib.keeps d j = true
      · rw [if_pos q]; exact List.mem_append.2 (.inr (by simp))
      · unfold Lib.keeps at q
        simp only [decide_eq_true_eq, not_or, Decidable.not_not] at q
        rw [q.2]
        exact List.mem_append.2 (.inl (mem_compactUpTo d j (j - 1) (by omega)))
theorem compactUpTo_sub (d : Array Int) (m : Nat) : (Lib.compactUpTo d m).Sublist ((List.range m).map (d[·]!)) := List.Sublist.map _ List.filter_sublist
theorem compact_sub (l : List Int) : (Lib.compact l).Sublist l := by
  have := compactUpTo_sub l.toArray l.length
  have e := Lib.range_map_get l.toArray
  rw [List.size_toArray] at e
  rw [e] at this
  exact this
theorem mem_compact (l : List Int) (x : Int) : x ∈ Lib.compact l ↔ x ∈ l := by
  refine ⟨fun h => (compact_sub l).subset h, fun h => ?_⟩
  obtain ⟨i, hi, rfl⟩ := List.mem_iff_getElem.1 h
  have := mem_compactUpTo l.toArray l.length i hi
  rwa [getElem!_pos l.toArray i (by simpa using hi), List.getElem_toArray] at this
theorem mem_sortedOff (l : List Int) (x : Int) : x ∈ sortedOff l ↔ x ∈ l := by
  unfold sortedOff
  rw [mem_compact]
  exact (List.mergeSort_perm l _).mem_iff
theorem sortedOff_le (l : List Int) : (sortedOff l).Pairwise (· ≤ ·) := by
  unfold sortedOff
  refine List.Pairwise.sublist (compact_sub _) ?_
  have := List.pairwise_mergeSort (le := fun x y : Int => decide (x ≤ y)) (fun a b c h1 h2 => by simp only [decide_eq_true_eq] at *; omega) (fun a b => by simp only [Bool.or_eq_true, decide_eq_true_eq]; omega) l
  exact this.imp (fun h => of_decide_eq_true h)
theorem sortedOff_len (l : List Int) : (sortedOff l).length ≤ l.length := by
  have := (compact_sub (l.mergeSort fun x y => decide (x ≤ y))).length_le
  rwa [List.length_mergeSort] at this
theorem contains_sortedOff (l : List Int) (x : Int) : (sortedOff l).contains x = l.contains x := by
  rw [Bool.eq_iff_iff, List.contains_iff_mem, List.contains_iff_mem]
  exact mem_sortedOff l x
def Fine (l : List Int) : Prop := l.length ≤ 256 ∧ ∀ x ∈ l, 0 ≤ x ∧ x ≤ 200000
theorem new_eq {l : List Int} (h : Fine l) : calendar_New.f l = some (sortedOff l, 0) := if_pos h
def Good (x : Int) : Prop := 0 ≤ x ∧ x ≤ 200000
instance (x : Int) : Decidable (Good x) := by unfold Good; infer_instance
def worksS (l : List Int) (x : Int) : Bool := !l.contains x && (decide (Good x) && decide (wkday x ≤ 4))
theorem worksS_good {l : List Int} {x : Int} (h : worksS l x = true) : Good x := by
  unfold worksS at h
  simp only [Bool.and_eq_true, decide_eq_true_eq] at h
  exact h.2.1
theorem works_eq {l : List Int} (h : Fine l) (x : Int) : calendar_Calendar_Works.f (sortedOff l) x = some (worksS l x) := by
  unfold calendar_Calendar_Works.f worksS
  have := sortedOff_len l
  have := h.1
  rw [if_pos ⟨sortedOff_le l, by omega⟩, good_eq, wk_eq, contains_sortedOff]
  simp only [Option.bind_some]
  unfold Good
  by_cases a : 0 ≤ x ∧ x ≤ 200000
  · rw [decide_eq_true a, if_pos rfl, Bool.true_and]
    by_cases b : wkday x > 4
    · rw [if_pos b, decide_eq_false (by omega), Bool.and_false]
    · rw [if_neg b, decide_eq_true (by omega), Bool.and_true]
  · rw [decide_eq_false a, if_neg (by simp), Bool.false_and, Bool.and_false]
theorem rworks_l0 {l : List Int} (hl : l.length ≤ 256) (x : Int) : ∀ (f i : Nat), i + f = l.length → Ev (fun k => lombardref02_Calendar_Works.l0 k x i l) (worksS (l.drop i) x) := by
  intro f
  induction f with
  | zero =>
    intro i hi
    refine Ev.step (f := fun _ => some (worksS (l.drop i) x)) (fun k => ?_) (Ev.now _)
    simp only [lombardref02_Calendar_Works.l0, rgood_eq, rwk_eq, Option.bind_some]
    rw [if_neg (by omega), List.drop_of_length_le (by omega)]
    unfold worksS Good
    by_cases a : 0 ≤ x ∧ x ≤ 200000
    · rw [decide_eq_true a, if_pos rfl]
      simp only [List.contains_nil, Bool.not_false, Bool.true_and]
      congr 1
      exact decide_eq_decide.2 (by omega)
    · rw [decide_eq_false a, if_neg (by simp)]
      simp
  | succ f ih =>
    intro i hi
    have hi2 : i < l.length := by omega
    have er : rd l (i : Int) = l[i] := by unfold rd; rw [Int.toNat_natCast, List.getD_eq_getElem?_getD, List.getElem?_eq_getElem hi2]; rfl
    have ed : l.drop i = l[i] :: l.drop (i + 1) := (List.getElem_cons_drop hi2).symm
    by_cases c : l[i] = x
    · refine Ev.step (f := fun _ => some (worksS (l.drop i) x)) (fun k => ?_) (Ev.now _)
      simp only [lombardref02_Calendar_Works.l0, er]
      rw [if_pos (by omega), if_pos (by omega), if_pos c, ed]
      unfold worksS
      simp [c]
    · refine Ev.step (f := fun k => lombardref02_Calendar_Works.l0 k x ((i + 1 : Nat) : Int) l) (fun k => ?_) ?_
      · simp only [lombardref02_Calendar_Works.l0, er]
        rw [if_pos (by omega), if_pos (by omega), if_neg c, w_id (by omega) (by omega)]
        rfl
      · have e : worksS (l.drop i) x = worksS (l.drop (i + 1)) x := by
          rw [ed]
          unfold worksS
          rw [List.contains_cons, beq_eq_false_iff_ne.2 (fun z => c z.symm), Bool.false_or]
        rw [e]
        exact ih (i + 1) (by omega)
theorem rworks_ev {l : List Int} (h : Fine l) (x : Int) : Ev (fun k => lombardref02_Calendar_Works.f k l x) (worksS l x) := rworks_l0 h.1 x l.length 0 (by omega)
def cnt (W : Int → Bool) : Nat → Int → Int
  | 0, _ => 0
  | f + 1, x => (if W x = true then 1 else 0) + cnt W f (x + 1)
theorem cnt_add (W : Int → Bool) : ∀ (a b : Nat) (x : Int), cnt W (a + b) x = cnt W a x + cnt W b (x + a)
  | 0, b, x => by simp [cnt]
  | a + 1, b, x => by
    have := cnt_add W a b (x + 1)
    rw [show a + 1 + b = (a + b) + 1 by omega]
    simp only [cnt]
    rw [this, show x + 1 + (a : Int) = x + ((a + 1 : Nat) : Int) by omega]
    omega
theorem cnt_none {W : Int → Bool} : ∀ (f : Nat) (x : Int), (∀ y, x ≤ y → y < x + f → W y = false) → cnt W f x = 0
  | 0, _, _ => rfl
  | f + 1, x, h => by
    simp only [cnt]
    rw [h x (by omega) (by omega), cnt_none f (x + 1) (fun y h1 h2 => h y (by omega) (by omega)), if_neg (by simp)]
    rfl
def top (tt : Int) : Int := if tt ≤ 200001 then tt else 200001
def countS (l : List Int) (fr tt : Int) : Int := cnt (worksS l) (top tt - mx fr 0).toNat (mx fr 0)
theorem count_l0 {l : List Int} (h : Fine l) (tt : Int) : ∀ (f : Nat) (c x : Int), f = (top tt - x).toNat → 0 ≤ x → x < 9223372036854775807 → 0 ≤ c → c + f ≤ 300000 →
    Ev (fun k => calendar_Calendar_Count.l0 k tt c x (sortedOff l)) (c + cnt (worksS l) f x) := by
  intro f
  induction f with
  | zero =>
    intro c x hf x0 x1 c0 c1
    have e : c + cnt (worksS l) 0 x = c := by simp [cnt]
    rw [e]
    unfold top at hf
    have j : Ev (fun k => calendar_Calendar_Count.j1 k tt c x false (sortedOff l)) c := Ev.step (f := fun _ => some c) (fun k => by simp only [calendar_Calendar_Count.j1, Bool.false_eq_true, if_false]) (Ev.now _)
    by_cases q : x < tt
    · refine Ev.step (fun k => ?_) j
      simp only [calendar_Calendar_Count.l0, good_eq, Option.bind_some]
      rw [if_pos q, decide_eq_false (by split at hf <;> omega)]
    · refine Ev.step (fun k => ?_) j
      simp only [calendar_Calendar_Count.l0]
      rw [if_neg q]
  | succ f ih =>
    intro c x hf x0 x1 c0 c1
    have hx : x < tt ∧ x ≤ 200000 := by unfold top at hf; split at hf <;> omega
    have hf2 : f = (top tt - (x + 1)).toNat := by omega
    refine Ev.step (f := fun k => calendar_Calendar_Count.j1 k tt c x true (sortedOff l)) (fun k => ?_) ?_
    · simp only [calendar_Calendar_Count.l0, good_eq, Option.bind_some]
      rw [if_pos hx.1, decide_eq_true ⟨x0, hx.2⟩]
    · by_cases q : worksS l x = true
      · have := ih (c + 1) (x + 1) hf2 (by omega) (by omega) (by omega) (by omega)
        simp only [cnt, if_pos q]
        rw [show c + (1 + cnt (worksS l) f (x + 1)) = c + 1 + cnt (worksS l) f (x + 1) by omega]
        refine Ev.step (fun k => ?_) this
        simp only [calendar_Calendar_Count.j1, if_true, works_eq h, Option.bind_some]
        rw [if_pos q, w_id (by omega) (by omega), w_id (by omega) (by omega)]
      · have := ih c (x + 1) hf2 (by omega) (by omega) (by omega) (by omega)
        simp only [cnt, if_neg q]
        rw [show c + (0 + cnt (worksS l) f (x + 1)) = c + cnt (worksS l) f (x + 1) by omega]
        refine Ev.step (fun k => ?_) this
        simp only [calendar_Calendar_Count.j1, if_true, works_eq h, Option.bind_some]
        rw [if_neg q, w_id (by omega) (by omega)]
theorem mx_eq (a b : Int) : mx a b = if a ≤ b then b else a := by
  unfold mx
  repeat' split
  all_goals first | rfl | omega
theorem count_ev {l : List Int} (h : Fine l) (fr tt : Int) (hw2 : fr ≤ 9223372036854775807) (hw3 : tt ≤ 9223372036854775807) : Ev (fun k => calendar_Calendar_Count.f k (sortedOff l) fr tt) (countS l fr tt) := by
  unfold calendar_Calendar_Count.f countS
  have e := mx_eq fr 0
  by_cases q : mx fr 0 < 9223372036854775807
  · have hb : (top tt - mx fr 0).toNat ≤ 200001 := by unfold top; split <;> split at e <;> omega
    have := count_l0 h tt (top tt - mx fr 0).toNat 0 (mx fr 0) rfl (by split at e <;> omega) q (by omega) (by omega)
    rwa [Int.zero_add] at this
  · have hb : (top tt - mx fr 0).toNat = 0 := by unfold top; split <;> split at e <;> omega
    rw [hb]
    simp only [cnt]
    refine Ev.step (f := fun k => calendar_Calendar_Count.j1 k tt 0 (mx fr 0) false (sortedOff l)) (fun k => ?_) (Ev.step (f := fun _ => some 0) (fun k => by simp only [calendar_Calendar_Count.j1, Bool.false_eq_true, if_false]) (Ev.now _))
    simp only [calendar_Calendar_Count.l0]
    rw [if_neg (by split at e <;> omega)]
theorem wf_le {x : Int} (h : (Lit.int .i64 x).wf = true) : x ≤ 9223372036854775807 := by
  simp only [Lit.wf, IntKind.min, IntKind.max, IntKind.signed, IntKind.bits, Bool.and_eq_true, decide_eq_true_eq, if_true] at h
  omega
end Go.Proofs.Ytkdbolhheodfkaa.PCal
