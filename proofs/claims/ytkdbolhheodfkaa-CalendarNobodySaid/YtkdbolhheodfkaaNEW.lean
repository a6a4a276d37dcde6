-- a shortened text: what this claim does not name is left out (wip/xprint/prune.py of this repo)
import Derived.Test.YtkdbolhheodfkaaIST
import Derived.Test.YtkdbolhheodfkaaSHF
import Derived.Test.YtkdbolhheodfkaaX2
import Derived.Laws.IdiomCopy
import Derived.Laws.MakeOwn
import Derived.Lib.OwnBridge
import Derived.Sort.OwnSortedInts
namespace Go.Proofs.Ytkdbolhheodfkaa.X
open Go Go.RowKit Go.Proofs.YtkdbolhheodfkaaW.PrintWords Go.Proofs.YtkdbolhheodfkaaW.PrintLast Go.Proofs.YtkdbolhheodfkaaW.PrintMore
set_option linter.unusedVariables false
def sortedOff (l : List Int) : List Int := Lib.compact (l.mergeSort fun x y => decide (x ≤ y))
def calendar_New.f (l0 : List Int) : Option (List Int × Int) :=
  if l0.length ≤ 256 ∧ (∀ x ∈ l0, 0 ≤ x ∧ x ≤ 200000) then some (sortedOff l0, 0) else none
theorem New.make_run {P : Program} (w : World) {ops : Array Oper} {rest : List Oper} {o : Oper} {a : Act} {Q : Exit → Act → World → Prop} (hgd : o.guard = none) (t : TypeId) (x y : Operand) (ho : o.op = .makeSlice t x y) {v' : Value} {w' : World}
    (u v : Value) (hx : a.eval x = u) (hy : a.eval y = v) (hr : (Instr.makeSlice t u v).run P w = .ok v' w') (h : ∀ W1, W1 = w' → wpList P ops Q rest (a.put o.dst v') W1) : wpList P ops Q (o :: rest) a w := by
  replace h := h _ rfl
  refine wpList_plain hgd fun K hK => ?_
  unfold Oper.wp execOp
  simp only [ho, hx, hy, Sem.run_bind, hr, Result.andThen_ok, Sem.run_pure]
  exact hK _ _ h
theorem New.end_ {w0 w W4 : World} {b n : Nat} {r : List Int} (hB : Below w0.heap.size w0 w) (hbel : Below w.heap.size w W4) (hn : r.length ≤ n)
    (own : W4.ownsRow w.heap.size 3 1 (.slice (some ⟨b, 0, none⟩) r.length n) r.length (r.map (Value.int .i64))) :
    ∃ g_ : Nat, Ending.returned (.tuple #[.pointer (some ⟨W4.heap.size, 0, none⟩), .int .i64 0]) = .returned (.tuple #[.pointer (some ⟨g_, 0, none⟩), .int .i64 0]) ∧
      IsS57 w0 (W4.alloc (.cells #[.slice (some ⟨b, 0, none⟩) r.length n] 57)) g_ r ∧ Below w0.heap.size w0 (W4.alloc (.cells #[.slice (some ⟨b, 0, none⟩) r.length n] 57)) ∧ Below w.heap.size w (W4.alloc (.cells #[.slice (some ⟨b, 0, none⟩) r.length n] 57)) := by
  have hw : w0.heap.size ≤ w.heap.size := hB.size
  have h4 : w.heap.size ≤ W4.heap.size := hbel.size
  have hb2 := below_alloc hbel (.cells #[.slice (some ⟨b, 0, none⟩) r.length n] 57)
  refine ⟨_, rfl, ⟨some ⟨b, 0, none⟩, n, heap_alloc_new W4 _, by omega, hn, ?_⟩, below_step hB hb2, hb2⟩
  rcases own.2 with ⟨e, _⟩ | ⟨g, cap, cur, e, _, hh, _, _, _, ht⟩
  · cases e
  · cases e
    refine .inr ⟨b, cur, rfl, ?_, by rw [Nat.mul_one] at ht; exact ht⟩
    exact ((below_alloc (Below.refl W4.heap.size W4) (.cells #[.slice (some ⟨b, 0, none⟩) r.length n] 57)).block b (Array.getElem?_eq_some_iff.1 hh).1).trans hh
theorem New.end0 {w0 w W4 : World} {A : Option Addr} {n : Nat} (hB : Below w0.heap.size w0 w) (hbel : Below w.heap.size w W4) :
    ∃ g_ : Nat, Ending.returned (.tuple #[.pointer (some ⟨W4.heap.size, 0, none⟩), .int .i64 0]) = .returned (.tuple #[.pointer (some ⟨g_, 0, none⟩), .int .i64 0]) ∧
      IsS57 w0 (W4.alloc (.cells #[.slice A 0 n] 57)) g_ [] ∧ Below w0.heap.size w0 (W4.alloc (.cells #[.slice A 0 n] 57)) ∧ Below w.heap.size w (W4.alloc (.cells #[.slice A 0 n] 57)) := by
  have hw : w0.heap.size ≤ w.heap.size := hB.size
  have h4 : w.heap.size ≤ W4.heap.size := hbel.size
  have hb2 := below_alloc hbel (.cells #[.slice A 0 n] 57)
  exact ⟨_, rfl, ⟨A, n, heap_alloc_new W4 _, by omega, Nat.zero_le _, .inl rfl⟩, below_step hB hb2, hb2⟩
theorem holds_of_own1 {W : World} {b g n : Nat} {l : List Int} (h : W.ownsRow b 3 1 (.slice (some ⟨g, 0, none⟩) n n) n (l.map (Value.int .i64))) : Go.Sort.Holds (Value.int .i64) W g 0 l.toArray := by
  obtain ⟨g', cap, e, _, _, _, _, _, hH⟩ := Lib.holds_of_ownsRow h (by simp)
  cases e
  exact hH
theorem lt_of_own1 {W : World} {b g n : Nat} {xs : List Value} (h : W.ownsRow b 3 1 (.slice (some ⟨g, 0, none⟩) n n) n xs) : g < W.heap.size := by
  rcases h.2 with ⟨e, _⟩ | ⟨g', cap, cur, e, _, hh, _⟩
  · cases e
  · cases e
    exact (Array.getElem?_eq_some_iff.1 hh).1
theorem sorted_own1 {W w3 : World} {b g n k : Nat} {os : Array Obj} {l zs : List Int} (hz : zs.length = l.length) (h : W.ownsRow b 3 1 (.slice (some ⟨g, 0, none⟩) n n) n (l.map (Value.int .i64))) (e : w3 = Go.Sort.grow (Go.Sort.putRow (Value.int .i64) (Go.Sort.ahead W k) g 0 zs.toArray) os) :
    w3.ownsRow b 3 1 (.slice (some ⟨g, 0, none⟩) n n) n (zs.map (Value.int .i64)) := by
  have hl : l.length = n := by have := h.1; rwa [List.length_map, Nat.mul_one] at this
  rcases h.2 with ⟨e0, _⟩ | ⟨g', cap, cur, e0, hb, hh, h1, h2, h3, h4⟩
  · cases e0
  · cases e0
    have := ownsRow_sortedI (n := k) (os := os) (ss := l) (ts := zs) hz hb hh (by omega) h2 h3
    rw [hl] at this
    rw [e]
    exact this
theorem sorted_below1 {w W w3 : World} {k : Nat} {os : Array Obj} {d : Array Int} (h : Below w.heap.size w W) (e : w3 = Go.Sort.grow (Go.Sort.putRow (Value.int .i64) (Go.Sort.ahead W k) w.heap.size 0 d) os) : Below w.heap.size w w3 := by
  rw [e]
  exact h.grown (grownBy_sortedI d) h.size (fun j hj => by cases hj; exact Nat.le_refl _)
set_option maxHeartbeats 4000000 in
set_option maxRecDepth 100000 in
theorem calendar_New.calls (A0 : Option Addr) (c0 : Nat) (l0 : List Int) (r1 : List Int) (r2 : Int) (w0 w : World) (hB : Below w0.heap.size w0 w) (hr0 : Kd.C (Kd.int .i64) w0 A0 l0.length l0) (hc0 : l0.length ≤ c0) (h : calendar_New.f l0 = some (r1, r2)) :
    Calls Try.prog 20 #[.slice A0 l0.length c0] w fun e w' => ∃ g_ : Nat, e = .returned (.tuple #[.pointer (some ⟨g_, 0, none⟩), .int .i64 r2]) ∧ IsS57 w0 w' g_ r1 ∧ Below w0.heap.size w0 w' ∧ Below w.heap.size w w' := by
  unfold calendar_New.f at h
  by_cases c : l0.length ≤ 256 ∧ (∀ x ∈ l0, 0 ≤ x ∧ x ≤ 200000)
  case neg => rw [if_neg c] at h; cases h
  rw [if_pos c] at h
  obtain ⟨rfl, rfl⟩ := Prod.mk.inj (Option.some.inj h)
  clear h
  obtain ⟨c1, c2⟩ := c
  have hC : Kd.C (Kd.int .i64) w A0 l0.length l0 := Kd.C_below hr0 hB
  obtain ⟨n, hn⟩ : ∃ n, n = l0.length := ⟨_, rfl⟩
  have hgood : ∀ i, i < n → calendar_Good.f (Go.Proofs.YtkdbolhheodfkaaW.PrintWords.rd l0 (i : Int)) = some true := fun i hi => by
    have hx := c2 (Go.Proofs.YtkdbolhheodfkaaW.PrintWords.rd l0 (i : Int)) (by
      unfold Go.Proofs.YtkdbolhheodfkaaW.PrintWords.rd
      rw [Int.toNat_natCast, List.getD_eq_getElem?_getD, List.getElem?_eq_getElem (by omega)]
      exact List.getElem_mem (by omega))
    unfold calendar_Good.f
    rw [if_pos hx.1, decide_eq_true hx.2]
  have hcell : ∀ i, i < n → ∃ ad, A0 = some ad ∧ w.cell? (ad.add i) = some (.int .i64 (Go.Proofs.YtkdbolhheodfkaaW.PrintWords.rd l0 (i : Int))) := fun i hi => by
    obtain ⟨ad, e, hx⟩ := Kd.at_int hC (i : Int) (by omega) (by omega)
    rw [Int.toNat_natCast] at hx
    exact ⟨ad, e, hx⟩
  have g256 : decide (256 < (n : Int)) = false := decide_eq_false (by omega)
  rw [← hn] at hr0 hc0 hC c1 ⊢
  have HC := Aside0.mk (And.intro hB (And.intro hr0 (And.intro hc0 (And.intro hC c1))))
  have HG := Aside0.mk hgood
  have HN := Aside0.mk hn
  have HX := Aside0.mk hcell
  clear hB hr0 hc0 hC c1 c2 hgood hcell hn
  go_enter Try.func20, Try.ntmps20
  go_wp2
  go_loopg [12] n (fun g s12 wr => ∃ i q : Nat, s12 = .int .i64 i ∧ i + g = n ∧ wr = w.drewN q)
  case atStart => exact ⟨0, 0, rfl, by omega, rfl⟩
  case round =>
    obtain ⟨i, q, rfl, hi, rfl⟩ := hrel
    by_cases hlt : i < n
    · obtain ⟨ad, rfl, hx⟩ := HX.out i hlt
      have hg := HG.out i hlt
      go_wp2_with (first | (go_at_call 15; refine (calendar_Good.calls _ true _ hg).mono ?_; rintro e w' ⟨rfl, n1, rfl⟩))
      go_roundg (n - (i + 1))
      case measure => omega
      case rel => exact ⟨i + 1, _, by rw [show wrap64 ((i : Int) + 1) = ((i + 1 : Nat) : Int) by have := HC.out.2.2.2.2; unfold wrap64; omega], by omega, rfl⟩
    · obtain rfl : n = i := by omega
      obtain ⟨i0, hi0, hz0, hzs, hzb⟩ := info_parts (show (Try.prog.info? 3).map (fun i => (i.zero, i.size, i.bytes)) = some (some (.int .i64 0), 1, 8) by kernel_rfl)
      have hmk : ∀ W : World, (Instr.makeSlice 39 (.int .i64 (n : Int)) (.int .i64 (n : Int))).run Try.prog W = .ok (.slice (some ⟨W.heap.size, 0, none⟩) n n) (W.alloc (.cells (madeCells (Value.int .i64 0).cells (n * 1)) 3)) := fun W => by
        have := run_make (P := Try.prog) W 39 3 i0 (.int .i64 0) Try.underlying39 hi0 hz0 .i64 .i64 (n : Int) (n : Int) (by omega) (by omega) (by rw [hzb]; have := HC.out.2.2.2.2; omega) (by have := HC.out.2.2.2.2; omega)
        rw [hzs] at this
        simpa only [Int.toNat_natCast] using this
      have hsz1 : (Try.prog.info? 3).map (·.size) = some 1 := by rw [hi0]; simp [hzs]
      have MK := Aside0.mk hmk
      clear hmk hi0 hz0 hzs hzb
      by_cases n0 : n = 0
      · subst n0
        have hcp : ∀ (W : World) d a ty c, (Builtin.copy_ #[39, 39] ty #[.slice d 0 0, .slice a 0 c]).run Try.prog W = .ok (goInt 0) W := fun W d a ty c => run_copy_none W 39 39 ty 3 d a 0 0 0 c Try.underlying39 hsz1 rfl
        have CP := Aside0.mk hcp
        have L0 := Aside0.mk (show l0 = [] from List.eq_nil_of_length_eq_zero HN.out.symm)
        clear hcp hsz1
        go_wp2_with (first
          | ((with_reducible refine gate_dst (N := 22) rfl ?_); refine New.make_run _ rfl _ _ _ rfl _ _ rfl rfl (MK.out _) ?_; intro W1 e1; have E1 := Aside0.mk e1; clear e1; have hcp := CP.out W1 (some ⟨w.heap.size, 0, none⟩) A0 3 c0)
          | (go_at_call 38; refine (Try.slices_Sort_int_none _ _ _).mono ?_; rintro e w3 ⟨rfl, e3⟩; have E3 := Aside0.mk e3; clear e3)
          | (go_at_call 39; refine (Try.slices_Compact_int_empty _ _ _).mono ?_; rintro e w4 ⟨rfl, e4⟩; have E4 := Aside0.mk e4; clear e4))
        go_ret2
        have hw4 : Below w.heap.size w w4 := by rw [E4.out, E3.out, E1.out]; exact below_alloc (pw_below_drewN (Below.refl _ _) q) _
        rw [L0.out, show sortedOff [] = [] by simp [sortedOff, Lib.compact, Lib.compactUpTo]]
        exact New.end0 HC.out.1 hw4
      · have hl := HN.out
        have h256 := HC.out.2.2.2.2
        obtain ⟨ad, hA, _⟩ := HX.out 0 (by omega)
        subst hA
        have hcells : ∀ j v, (l0.map (Value.int .i64))[j]? = some v → w.cell? (ad.add j) = some v := fun j v hj => by
          rw [List.getElem?_map] at hj
          obtain ⟨x, hx, rfl⟩ := Option.map_eq_some_iff.1 hj
          have hjn : j < n := by rw [hl]; exact (List.getElem?_eq_some_iff.1 hx).1
          obtain ⟨ad2, e, hc⟩ := HX.out j hjn
          cases e
          rw [hc]
          unfold Go.Proofs.YtkdbolhheodfkaaW.PrintWords.rd
          rw [Int.toNat_natCast, List.getD_eq_getElem?_getD, hx]
          rfl
        obtain ⟨zs, hzs⟩ : ∃ zs, zs = l0.mergeSort fun x y => decide (x ≤ y) := ⟨_, rfl⟩
        have hzl : zs.length = n := by rw [hzs, List.length_mergeSort, hl]
        have hle : (Lib.compact zs).length ≤ n := by rw [← hzl]; exact Lib.compact_length_le zs
        have T : ∀ (W1 W2 : World), W1 = (w.drewN q).alloc (.cells (madeCells (Value.int .i64 0).cells (n * 1)) 3) → W2 = W1.setCells w.heap.size 0 (l0.map (Value.int .i64)) →
            Below w.heap.size w W2 ∧ W2.ownsRow w.heap.size 3 1 (.slice (some ⟨w.heap.size, 0, none⟩) n n) n (l0.map (Value.int .i64)) := fun W1 W2 e1 e2 => by
          have h1 : W1.heap[w.heap.size]? = some (.cells (madeCells (Value.int .i64 0).cells (n * 1)) 3 (0, 0)) := by rw [e1]; exact heap_alloc_new (w.drewN q) _
          have b1 : Below w.heap.size w W1 := by rw [e1]; exact below_alloc (pw_below_drewN (Below.refl _ _) q) _
          obtain ⟨cur, x1, x2, x3⟩ := setCells_row (e := 3) (l0.map (Value.int .i64)) 0 W1 _ h1 (by rw [List.length_map, size_madeCells]; omega)
          obtain ⟨s1, s2, s3, s4⟩ := setCells_same w.heap.size (l0.map (Value.int .i64)) 0 W1
          rw [← e2] at x1 s1 s2 s3 s4
          refine ⟨⟨s1.trans b1.os, s2.trans b1.tape, s3.trans b1.output, by rw [s4]; exact b1.size, fun k hk => ?_⟩, ⟨by simp [← hl], .inr ⟨w.heap.size, n, cur, rfl, Nat.le_refl _, x1, Nat.le_refl _, by unfold maxLen; omega, by rw [x2, size_madeCells], ?_⟩⟩⟩
          · rw [e2, setCells_far _ _ k (by omega)]
            exact b1.block k hk
          · rw [x3, List.take_zero, List.nil_append, List.take_append_of_le_length (by simp [← hl]), List.take_of_length_le (by simp [← hl])]
        have hcp : ∀ W1 : World, W1 = (w.drewN q).alloc (.cells (madeCells (Value.int .i64 0).cells (n * 1)) 3) → ∃ W2, W2 = W1.setCells w.heap.size 0 (l0.map (Value.int .i64)) ∧ (Builtin.copy_ #[39, 39] 3 #[.slice (some ⟨w.heap.size, 0, none⟩) n n, .slice (some ad) n c0]).run Try.prog W1 = .ok (goInt (n : Int)) W2 := fun W1 e1 => by
          have h1 : W1.heap[w.heap.size]? = some (.cells (madeCells (Value.int .i64 0).cells (n * 1)) 3 (0, 0)) := by rw [e1]; exact heap_alloc_new (w.drewN q) _
          have := run_copy_cells (P := Try.prog) W1 39 39 3 3 w.heap.size 0 n n ad n c0 (l0.map (Value.int .i64)) Try.underlying39 hsz1 (by simp [← hl]) (fun j v hj => by
              have hc := hcells j v hj
              have b1 : Below w.heap.size w W1 := by rw [e1]; exact below_alloc (pw_below_drewN (Below.refl _ _) q) _
              exact (b1.cell (World.block_lt_of_cell? w _ hc)).trans hc)
            (fun j hj => by
              rw [List.length_map] at hj
              simp only [World.cell?, h1]
              simp only [Option.isSome_none, Bool.false_eq_true, if_false]
              rw [Array.getElem?_eq_getElem (by rw [size_madeCells]; omega)]
              rfl) (fun j hj => by simp [World.frozen?, h1]) (fun v hv => by obtain ⟨x, _, rfl⟩ := List.mem_map.1 hv; rfl)
          rw [List.length_map, ← hl] at this
          exact ⟨_, rfl, this⟩
        have hsort : ∀ W : World, Go.Sort.Holds (Value.int .i64) W w.heap.size 0 l0.toArray → w.heap.size < W.heap.size → Calls Try.prog 38 #[.slice (some ⟨w.heap.size, 0, none⟩) n n] W fun e w' => e = .returned (.tuple #[]) ∧ ∃ k os, w' = Go.Sort.grow (Go.Sort.putRow (Value.int .i64) (Go.Sort.ahead W k) w.heap.size 0 zs.toArray) os := fun W hH hb => by
          have := Try.slices_Sort_int w.heap.size 0 n l0 W hH hb (by omega)
          rw [← hl, ← hzs] at this
          exact this
        have hcomp : ∀ W : World, Go.Sort.Holds (Value.int .i64) W w.heap.size 0 zs.toArray → Calls Try.prog 39 #[.slice (some ⟨w.heap.size, 0, none⟩) n n] W fun e w' => e = .returned (.slice (some ⟨w.heap.size, 0, none⟩) (Lib.compact zs).length n) ∧ ∃ k, w' = Go.Sort.putRow (Value.int .i64) (Go.Sort.ahead W k) w.heap.size 0 (Lib.compact zs ++ List.replicate (n - (Lib.compact zs).length) 0).toArray := fun W hH => by
          have := Try.slices_Compact_int w.heap.size 0 n zs W hH (by omega) (by omega)
          rw [hzl] at this
          exact this
        have HT := Aside0.mk T
        have HCP := Aside0.mk hcp
        have HS := Aside0.mk hsort
        have HM := Aside0.mk hcomp
        have HL := Aside0.mk (And.intro hl (And.intro hzl (And.intro hle hzs)))
        clear T hcp hsort hcomp hl hzl hle hzs hcells hsz1 h256
        go_wp2_with (first
          | ((with_reducible refine gate_dst (N := 22) rfl ?_); refine New.make_run _ rfl _ _ _ rfl _ _ rfl rfl (MK.out _) ?_; intro W1 e1; obtain ⟨W2, e2, hcp⟩ := HCP.out W1 e1; obtain ⟨t1, t2⟩ := HT.out W1 W2 e1 e2; have T1 := Aside0.mk t1; have T2 := Aside0.mk t2; clear e1 e2 t1 t2)
          | (go_at_call 38; refine (HS.out _ (holds_of_own1 T2.out) (lt_of_own1 T2.out)).mono ?_; rintro e w3 ⟨rfl, k1, os, e3⟩; have E3 := Aside0.mk e3; clear e3; have T3 := Aside0.mk (sorted_own1 (HL.out.2.1.trans HL.out.1) T2.out E3.out); have B3 := Aside0.mk (sorted_below1 T1.out E3.out))
          | (go_at_call 39; refine (HM.out _ (holds_of_own1 T3.out)).mono ?_; rintro e w4 ⟨rfl, k2, e4⟩; have E4 := Aside0.mk e4; clear e4))
        go_ret2
        have hle := HL.out.2.2.1
        have hr : sortedOff l0 = Lib.compact zs := by unfold sortedOff; rw [← HL.out.2.2.2]
        have own4 := Lib.ownsRow_putRow (q := k2) (k := (Lib.compact zs).length) (ys := Lib.compact zs ++ List.replicate (n - (Lib.compact zs).length) 0) T3.out (by simp; omega) hle
        rw [List.take_left, ← E4.out] at own4
        have b4 : Below w.heap.size w w4 := by rw [E4.out]; exact Lib.below_putRow B3.out (Nat.le_refl _)
        rw [hr]
        exact New.end_ HC.out.1 b4 hle own4
end Go.Proofs.Ytkdbolhheodfkaa.X
