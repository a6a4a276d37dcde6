-- a shortened text: what this claim does not name is left out (wip/xprint/prune.py of this repo)
import Derived.Test.YtlbhjkbjokiioaaXMin
import Derived.Test.YtlbhjkbjokiioaaX0
namespace Go.Proofs.Ytlbhjkbjokiioaa.X
open Go.RowKit Go.Proofs.YtlbhjkbjokiioaaW.PrintWords Go.Proofs.YtlbhjkbjokiioaaW.PrintLast Go.Proofs.YtlbhjkbjokiioaaW.PrintMore
attribute [local go_sem] max2_int min2_int max_two min_two max_three min_three max_four min_four
set_option linter.unusedVariables false
set_option linter.unusedSimpArgs false
def lombardlaw29_bids.l0 : Nat → List (S66) → List (S79) → Int → Option ((List (S79)))
 | 0, _, _, _ => none
 | k + 1, x0, x3, x4 => if x4 < (x0.length : Int) then (if 0 ≤ x4 then (if x3.length < 3518437208883 then (lombardlaw29_bids.l0 k x0 (x3 ++ [(⟨(rd_T66 x0 x4).f0, (rd_T66 x0 x4).f1, (rd_T66 x0 x4).f2, (rd_T66 x0 x4).f3⟩ : S79)]) (wrap64 (x4 + 1))) else (none)) else (none)) else (some x3)
def lombardlaw29_bids.f (k : Nat) (l0 : List (S66)) : Option ((List (S79))) := lombardlaw29_bids.l0 k l0 ([] : List (S79)) 0
theorem lombardlaw29_bids.mono_l : ∀ k, (∀ y0 y1 y2, LeO (lombardlaw29_bids.l0 k y0 y1 y2) (lombardlaw29_bids.l0 (k + 1) y0 y1 y2))
 | 0 => fun _ _ _ r h => by simp [lombardlaw29_bids.l0] at h
 | k + 1 => by
  have ih0 := lombardlaw29_bids.mono_l k
  · intro y0 y1 y2
    unfold lombardlaw29_bids.l0
    repeat' first
    | (with_reducible exact ih0 _ _ _)
    | (with_reducible exact LeO.refl _)
    | (with_reducible exact LeO.none _)
    | (with_reducible refine LeO.ite ?_ ?_)
    | (with_reducible refine LeO.bind ?_ (fun _ => ?_))
    | exact ih0 _ _ _
    | exact LeO.none _
    | refine LeO.ite ?_ ?_
    | refine LeO.bind ?_ (fun _ => ?_)
theorem lombardlaw29_bids.mono : ∀ a0 k, LeO (lombardlaw29_bids.f k a0) (lombardlaw29_bids.f (k + 1) a0) := by
 intro a0 k
 have ih0 := lombardlaw29_bids.mono_l k
 unfold lombardlaw29_bids.f
 repeat' first
  | (with_reducible exact ih0 _ _ _)
  | (with_reducible exact LeO.refl _)
  | (with_reducible exact LeO.none _)
  | (with_reducible refine LeO.ite ?_ ?_)
  | (with_reducible refine LeO.bind ?_ (fun _ => ?_))
  | exact ih0 _ _ _
  | exact LeO.none _
  | refine LeO.ite ?_ ?_
  | refine LeO.bind ?_ (fun _ => ?_)
def lombardlaw29_bids.T5 : Bool × List (List Nat × List Nat) := (true, [([], []), ([], []), ([], []), ([1, 2], [1, 2]), ([3], [3]), ([4], [4]), ([], []), ([], []), ([6, 7], [6, 7]), ([8], [8]), ([9], [9]), ([], []), ([], []), ([11, 12], [11, 12]), ([13], [13]), ([14], [14]), ([], []), ([], []), ([16, 17], [16, 17]), ([18], [18]), ([19], [19]), ([5, 10, 15, 20], [5, 10, 15, 20]), ([21], [21]), ([0, 22], [0, 22]), ([23, 23, 0, 1, 2, 3, 4, 5, 6, 7, 8, 9, 10, 11, 12, 13, 14, 15, 16, 17, 18, 19, 20, 21, 22, 23], [0, 23])])
def lombardlaw29_bids.B5 : List Nat := [0, 0, 0, 6, 14, 30, 0, 0, 192, 448, 960, 0, 0, 6144, 14336, 30720, 0, 0, 196608, 458752, 983040, 2097150, 4194302, 8388607, 16777215]
theorem lombardlaw29_bids.tab5 : rtab .any (opsOf Try.f17 5) = lombardlaw29_bids.T5 := by kernel_rfl
theorem lombardlaw29_bids.bits5 : waitsOk lombardlaw29_bids.T5.2 lombardlaw29_bids.B5 = true := by kernel_rfl
set_option maxHeartbeats 8000000 in
set_option maxRecDepth 100000 in
theorem lombardlaw29_bids.calls (k : Nat) (A0 : Option Addr) (c0 : Nat) (l0 : List (S66)) (r : List (S79)) (w : World) (hr0 : Kd.C k66 w A0 l0.length l0) (hc0 : l0.length ≤ c0) (h : lombardlaw29_bids.f k l0 = some r) :
 Calls Try.prog 17 #[.slice A0 l0.length c0] w fun e w' => ∃ v0_ : Value, e = .returned (v0_) ∧ Kd.R k79 79 w' w.heap.size (fun _ => True) v0_ r ∧ Below w.heap.size w w' := by
 have hu79 := Try.underlying79
 have HR0 := Aside0.mk hr0; have HC0 := Aside0.mk hc0; clear hr0 hc0
 have HB := aK (Below.refl w.heap.size w)
 have H : (lombardlaw29_bids.l0 k l0 ([] : List (S79)) 0) = some r := h
 clear h
 have H' := Aside0.mk H
 clear H
 go_enter Try.func17, Try.ntmps17
 go_wp2
 go_loopg [3, 4] k (fun kq v3 v4 w' => ∃ (x3_1 : List (S79)) (x4_1 : Int), v4 = .int .i64 x4_1 ∧ Aside0 (lombardlaw29_bids.l0 kq l0 x3_1 x4_1 = some r) ∧ Aside0 (kq ≤ k) ∧ Aside0 (Kd.R k79 79 w' w.heap.size (fun _ => True) v3 x3_1) ∧ Aside0 (Below w.heap.size w w'))
 case atStart => exact ⟨(([] : List (S79))), (0), ac, H', ⟨Nat.le_refl _⟩, ⟨by first | exact Kd.R_nil _ _ _ _ _ | exact Kd.N_nil _ _ _ _ _ | exact Kd.V_nil _ _ _ _ _ | exact Kd.Q_nil _ _ _ _ _ | exact Kd.S_nil _ _ _ _ _⟩, ⟨gB HB⟩⟩
 case round =>
  clear H'
  obtain ⟨x3_1, x4_1, rfl, HA, HK1, HO_3, HB⟩ := hrel
  cases gk with
  | zero => exact absurd HA.out (by simp [lombardlaw29_bids.l0])
  | succ k1 =>
   have H := HA.out
   clear HA
   simp only [lombardlaw29_bids.l0] at H
   by_cases c2 : x4_1 < (l0.length : Int)
   · rw [if_pos c2] at H
     have c2b0 := dT c2
     clear c2
     by_cases c3 : 0 ≤ x4_1
     · rw [if_pos c3] at H
       have c3b0 := dT c3
       clear c3
       by_cases c4 : x3_1.length < 3518437208883
       · rw [if_pos c4] at H
         have LMc4 := Aside0.mk c4; clear c4
         obtain ⟨y287, hy_⟩ : ∃ y_ : List (S79), y_ = (x3_1 ++ [(⟨(rd_T66 l0 x4_1).f0, (rd_T66 l0 x4_1).f1, (rd_T66 l0 x4_1).f2, (rd_T66 l0 x4_1).f3⟩ : S79)]) := ⟨_, rfl⟩
         replace H : (lombardlaw29_bids.l0 k1 l0 y287 (wrap64 (x4_1 + 1))) = some r := h2
         have Ny287 := Aside0.mk hy_; clear hy_
         have H' := Aside0.mk H
         clear H
         try go_wp2
         have n0_ := aK (Kd.R_drew HO_3.out)
         have n1_ := aK (below_drew1 HB.out)
         clear HO_3; clear HB
         have HO_3 := n0_
         have HB := n1_
         clear n0_ n1_
         have p283 : 0 ≤ (x4_1 : Int) := od
         have q283 : x4_1 < (l0.length : Int) := od
         obtain ⟨ad283, e283, hx283_0, hx283_1, hx283_2, hx283_3⟩ := at_T66 HR0.out x4_1 p283 q283
         have hw283_3 := hx283_3
         have hw283_2 := hx283_2
         have hw283_1 := hx283_1
         have hw283_0 := hx283_0
         cases e283
         replace hx283_0 := gc HB hx283_0
         replace hx283_1 := gc HB hx283_1
         replace hx283_2 := gc HB hx283_2
         replace hx283_3 := gc HB hx283_3
         replace p283 := eq_true p283; replace q283 := eq_true q283
         have p284 : 0 ≤ (x4_1 : Int) := od
         have q284 : x4_1 < (l0.length : Int) := od
         obtain ⟨ad284, e284, hx284_0, hx284_1, hx284_2, hx284_3⟩ := at_T66 HR0.out x4_1 p284 q284
         have hw284_3 := hx284_3
         have hw284_2 := hx284_2
         have hw284_1 := hx284_1
         have hw284_0 := hx284_0
         obtain rfl : ad283 = ad284 := (by injection e284)
         replace hx284_0 := gc HB hx284_0
         replace hx284_1 := gc HB hx284_1
         replace hx284_2 := gc HB hx284_2
         replace hx284_3 := gc HB hx284_3
         replace p284 := eq_true p284; replace q284 := eq_true q284
         have p285 : 0 ≤ (x4_1 : Int) := od
         have q285 : x4_1 < (l0.length : Int) := od
         obtain ⟨ad285, e285, hx285_0, hx285_1, hx285_2, hx285_3⟩ := at_T66 HR0.out x4_1 p285 q285
         have hw285_3 := hx285_3
         have hw285_2 := hx285_2
         have hw285_1 := hx285_1
         have hw285_0 := hx285_0
         obtain rfl : ad283 = ad285 := (by injection e285)
         replace hx285_0 := gc HB hx285_0
         replace hx285_1 := gc HB hx285_1
         replace hx285_2 := gc HB hx285_2
         replace hx285_3 := gc HB hx285_3
         replace p285 := eq_true p285; replace q285 := eq_true q285
         have p286 : 0 ≤ (x4_1 : Int) := od
         have q286 : x4_1 < (l0.length : Int) := od
         obtain ⟨ad286, e286, hx286_0, hx286_1, hx286_2, hx286_3⟩ := at_T66 HR0.out x4_1 p286 q286
         have hw286_3 := hx286_3
         have hw286_2 := hx286_2
         have hw286_1 := hx286_1
         have hw286_0 := hx286_0
         obtain rfl : ad283 = ad286 := (by injection e286)
         replace hx286_0 := gc HB hx286_0
         replace hx286_1 := gc HB hx286_1
         replace hx286_2 := gc HB hx286_2
         replace hx286_3 := gc HB hx286_3
         replace p286 := eq_true p286; replace q286 := eq_true q286
         refine start_ (n := 25) (S := fun w' => w'.cell? (ad283.add ((x4_1).toNat * 4)) = some (.int .i64 ((rd_T66 l0 x4_1).f0)) ∧ w'.cell? ⟨(ad283.add ((x4_1).toNat * 4)).block, (ad283.add ((x4_1).toNat * 4)).off + 1, none⟩ = some (.string ((rd_T66 l0 x4_1).f1)) ∧ w'.cell? ⟨(ad283.add ((x4_1).toNat * 4)).block, (ad283.add ((x4_1).toNat * 4)).off + 2, none⟩ = some (.int .i64 ((rd_T66 l0 x4_1).f2)) ∧ w'.cell? ⟨(ad283.add ((x4_1).toNat * 4)).block, (ad283.add ((x4_1).toNat * 4)).off + 3, none⟩ = some (.int .i64 ((rd_T66 l0 x4_1).f3)) ∧ w'.cell? (ad283.add ((x4_1).toNat * 4)) = some (.int .i64 ((rd_T66 l0 x4_1).f0)) ∧ w'.cell? ⟨(ad283.add ((x4_1).toNat * 4)).block, (ad283.add ((x4_1).toNat * 4)).off + 1, none⟩ = some (.string ((rd_T66 l0 x4_1).f1)) ∧ w'.cell? ⟨(ad283.add ((x4_1).toNat * 4)).block, (ad283.add ((x4_1).toNat * 4)).off + 2, none⟩ = some (.int .i64 ((rd_T66 l0 x4_1).f2)) ∧ w'.cell? ⟨(ad283.add ((x4_1).toNat * 4)).block, (ad283.add ((x4_1).toNat * 4)).off + 3, none⟩ = some (.int .i64 ((rd_T66 l0 x4_1).f3)) ∧ w'.cell? (ad283.add ((x4_1).toNat * 4)) = some (.int .i64 ((rd_T66 l0 x4_1).f0)) ∧ w'.cell? ⟨(ad283.add ((x4_1).toNat * 4)).block, (ad283.add ((x4_1).toNat * 4)).off + 1, none⟩ = some (.string ((rd_T66 l0 x4_1).f1)) ∧ w'.cell? ⟨(ad283.add ((x4_1).toNat * 4)).block, (ad283.add ((x4_1).toNat * 4)).off + 2, none⟩ = some (.int .i64 ((rd_T66 l0 x4_1).f2)) ∧ w'.cell? ⟨(ad283.add ((x4_1).toNat * 4)).block, (ad283.add ((x4_1).toNat * 4)).off + 3, none⟩ = some (.int .i64 ((rd_T66 l0 x4_1).f3)) ∧ w'.cell? (ad283.add ((x4_1).toNat * 4)) = some (.int .i64 ((rd_T66 l0 x4_1).f0)) ∧ w'.cell? ⟨(ad283.add ((x4_1).toNat * 4)).block, (ad283.add ((x4_1).toNat * 4)).off + 1, none⟩ = some (.string ((rd_T66 l0 x4_1).f1)) ∧ w'.cell? ⟨(ad283.add ((x4_1).toNat * 4)).block, (ad283.add ((x4_1).toNat * 4)).off + 2, none⟩ = some (.int .i64 ((rd_T66 l0 x4_1).f2)) ∧ w'.cell? ⟨(ad283.add ((x4_1).toNat * 4)).block, (ad283.add ((x4_1).toNat * 4)).off + 3, none⟩ = some (.int .i64 ((rd_T66 l0 x4_1).f3))) (ds := []) (pf 25 0) (by kernel_rfl) rfl rfl ⟨((HB.out.cell (World.block_lt_of_cell? w _ hw283_0)).trans hw283_0), ((HB.out.cell (World.block_lt_of_cell? w _ hw283_1)).trans hw283_1), ((HB.out.cell (World.block_lt_of_cell? w _ hw283_2)).trans hw283_2), ((HB.out.cell (World.block_lt_of_cell? w _ hw283_3)).trans hw283_3), ((HB.out.cell (World.block_lt_of_cell? w _ hw284_0)).trans hw284_0), ((HB.out.cell (World.block_lt_of_cell? w _ hw284_1)).trans hw284_1), ((HB.out.cell (World.block_lt_of_cell? w _ hw284_2)).trans hw284_2), ((HB.out.cell (World.block_lt_of_cell? w _ hw284_3)).trans hw284_3), ((HB.out.cell (World.block_lt_of_cell? w _ hw285_0)).trans hw285_0), ((HB.out.cell (World.block_lt_of_cell? w _ hw285_1)).trans hw285_1), ((HB.out.cell (World.block_lt_of_cell? w _ hw285_2)).trans hw285_2), ((HB.out.cell (World.block_lt_of_cell? w _ hw285_3)).trans hw285_3), ((HB.out.cell (World.block_lt_of_cell? w _ hw286_0)).trans hw286_0), ((HB.out.cell (World.block_lt_of_cell? w _ hw286_1)).trans hw286_1), ((HB.out.cell (World.block_lt_of_cell? w _ hw286_2)).trans hw286_2), ((HB.out.cell (World.block_lt_of_cell? w _ hw286_3)).trans hw286_3)⟩ (fun hHeld => ?_); refine with_tabW lombardlaw29_bids.tab5 lombardlaw29_bids.bits5 (fun HT_ HW_ => ?_)
         generalize wr.drew = w5 at HO_3 HB hx283_0 hx283_1 hx283_2 hx283_3 hx284_0 hx284_1 hx284_2 hx284_3 hx285_0 hx285_1 hx285_2 hx285_3 hx286_0 hx286_1 hx286_2 hx286_3 hHeld ⊢
         refine pA (i := 0) (N := some 11) HT_ (pf 25 1) ?_
         refine pA (i := 1) (N := some 12) HT_ (pf 25 2) ?_
         refine pA (i := 2) (N := some 13) HT_ (pf 25 3) ?_
         refine pA (i := 3) (N := some 14) HT_ (pf 25 4) ?_
         refine pA (i := 4) (N := some 15) HT_ (pf 25 5) ?_
         refine pA (i := 6) (N := some 17) HT_ (ba 25 95) ?_
         refine pA (i := 7) (N := some 18) HT_ (ba 25 223) ?_
         refine pA (i := 8) (N := some 19) HT_ (ba 25 479) ?_
         refine pA (i := 9) (N := some 20) HT_ (ba 25 991) ?_
         refine pA (i := 11) (N := some 22) HT_ (ba 25 3039) ?_
         refine pA (i := 12) (N := some 23) HT_ (ba 25 7135) ?_
         refine pA (i := 13) (N := some 24) HT_ (ba 25 15327) ?_
         refine pA (i := 14) (N := some 25) HT_ (ba 25 31711) ?_
         refine pA (i := 16) (N := some 27) HT_ (ba 25 97247) ?_
         refine pA (i := 17) (N := some 28) HT_ (ba 25 228319) ?_
         refine pA (i := 18) (N := some 29) HT_ (ba 25 490463) ?_
         refine pA (i := 19) (N := some 30) HT_ (ba 25 1014751) ?_
         refine take_ (i := 5) (N := some 16) (v := ?_) (a' := ?_) (ba 25 1014783) rfl rfl (take_ofW HT_.out HW_.out (by kernel_rfl)) (fun _ _ _ h => h) (Or.inl ⟨by rfl, ?_⟩) hHeld ?_ ?_
         rotate_left
         · rintro w' ⟨s0, s1, s2, s3, s4, s5, s6, s7, s8, s9, s10, s11, s12, s13, s14, s15⟩
           go_simp
           with_reducible rfl
         rotate_left
         · simp only [Act.put, sA, sB, sC, i64_w, i32_w]
           rfl
         refine take_ (i := 10) (N := some 21) (v := ?_) (a' := ?_) (ba 25 1015807) rfl rfl (take_ofW HT_.out HW_.out (by kernel_rfl)) (fun _ _ _ h => h) (Or.inl ⟨by rfl, ?_⟩) hHeld ?_ ?_
         rotate_left
         · rintro w' ⟨s0, s1, s2, s3, s4, s5, s6, s7, s8, s9, s10, s11, s12, s13, s14, s15⟩
           go_simp
           with_reducible rfl
         rotate_left
         · simp only [Act.put, sA, sB, sC, i64_w, i32_w]
           rfl
         refine take_ (i := 15) (N := some 26) (v := ?_) (a' := ?_) (pf 25 20) rfl rfl (take_ofW HT_.out HW_.out (by kernel_rfl)) (fun _ _ _ h => h) (Or.inl ⟨by rfl, ?_⟩) hHeld ?_ ?_
         rotate_left
         · rintro w' ⟨s0, s1, s2, s3, s4, s5, s6, s7, s8, s9, s10, s11, s12, s13, s14, s15⟩
           go_simp
           with_reducible rfl
         rotate_left
         · simp only [Act.put, sA, sB, sC, i64_w, i32_w]
           rfl
         refine take_ (i := 20) (N := some 31) (v := ?_) (a' := ?_) (pf 25 21) rfl rfl (take_ofW HT_.out HW_.out (by kernel_rfl)) (fun _ _ _ h => h) (Or.inl ⟨by rfl, ?_⟩) hHeld ?_ ?_
         rotate_left
         · rintro w' ⟨s0, s1, s2, s3, s4, s5, s6, s7, s8, s9, s10, s11, s12, s13, s14, s15⟩
           go_simp
           with_reducible rfl
         rotate_left
         · simp only [Act.put, sA, sB, sC, i64_w, i32_w]
           rfl
         refine pA (i := 21) (N := some 32) HT_ (pf 25 22) ?_
         refine one_ (i := 22) (N := some 33) (pf 25 23) rfl rfl (one_of HT_.out (by kernel_rfl)) (by decide) (fun K hK => ?_)
         refine value_ (w1 := ?_) (v := ?_) (by rfl) rfl ?_ ?_
         rotate_left 2
         · go_simp
           constructor
           · rfl
           · rfl
         refine hK.out _ _ ⟨(World.cell?_alloc_lt _ _ _ (World.block_lt_of_cell? _ _ (((HB.out.cell (World.block_lt_of_cell? w _ hw283_0)).trans hw283_0)))).trans (((HB.out.cell (World.block_lt_of_cell? w _ hw283_0)).trans hw283_0)), (World.cell?_alloc_lt _ _ _ (World.block_lt_of_cell? _ _ (((HB.out.cell (World.block_lt_of_cell? w _ hw283_1)).trans hw283_1)))).trans (((HB.out.cell (World.block_lt_of_cell? w _ hw283_1)).trans hw283_1)), (World.cell?_alloc_lt _ _ _ (World.block_lt_of_cell? _ _ (((HB.out.cell (World.block_lt_of_cell? w _ hw283_2)).trans hw283_2)))).trans (((HB.out.cell (World.block_lt_of_cell? w _ hw283_2)).trans hw283_2)), (World.cell?_alloc_lt _ _ _ (World.block_lt_of_cell? _ _ (((HB.out.cell (World.block_lt_of_cell? w _ hw283_3)).trans hw283_3)))).trans (((HB.out.cell (World.block_lt_of_cell? w _ hw283_3)).trans hw283_3)), (World.cell?_alloc_lt _ _ _ (World.block_lt_of_cell? _ _ (((HB.out.cell (World.block_lt_of_cell? w _ hw284_0)).trans hw284_0)))).trans (((HB.out.cell (World.block_lt_of_cell? w _ hw284_0)).trans hw284_0)), (World.cell?_alloc_lt _ _ _ (World.block_lt_of_cell? _ _ (((HB.out.cell (World.block_lt_of_cell? w _ hw284_1)).trans hw284_1)))).trans (((HB.out.cell (World.block_lt_of_cell? w _ hw284_1)).trans hw284_1)), (World.cell?_alloc_lt _ _ _ (World.block_lt_of_cell? _ _ (((HB.out.cell (World.block_lt_of_cell? w _ hw284_2)).trans hw284_2)))).trans (((HB.out.cell (World.block_lt_of_cell? w _ hw284_2)).trans hw284_2)), (World.cell?_alloc_lt _ _ _ (World.block_lt_of_cell? _ _ (((HB.out.cell (World.block_lt_of_cell? w _ hw284_3)).trans hw284_3)))).trans (((HB.out.cell (World.block_lt_of_cell? w _ hw284_3)).trans hw284_3)), (World.cell?_alloc_lt _ _ _ (World.block_lt_of_cell? _ _ (((HB.out.cell (World.block_lt_of_cell? w _ hw285_0)).trans hw285_0)))).trans (((HB.out.cell (World.block_lt_of_cell? w _ hw285_0)).trans hw285_0)), (World.cell?_alloc_lt _ _ _ (World.block_lt_of_cell? _ _ (((HB.out.cell (World.block_lt_of_cell? w _ hw285_1)).trans hw285_1)))).trans (((HB.out.cell (World.block_lt_of_cell? w _ hw285_1)).trans hw285_1)), (World.cell?_alloc_lt _ _ _ (World.block_lt_of_cell? _ _ (((HB.out.cell (World.block_lt_of_cell? w _ hw285_2)).trans hw285_2)))).trans (((HB.out.cell (World.block_lt_of_cell? w _ hw285_2)).trans hw285_2)), (World.cell?_alloc_lt _ _ _ (World.block_lt_of_cell? _ _ (((HB.out.cell (World.block_lt_of_cell? w _ hw285_3)).trans hw285_3)))).trans (((HB.out.cell (World.block_lt_of_cell? w _ hw285_3)).trans hw285_3)), (World.cell?_alloc_lt _ _ _ (World.block_lt_of_cell? _ _ (((HB.out.cell (World.block_lt_of_cell? w _ hw286_0)).trans hw286_0)))).trans (((HB.out.cell (World.block_lt_of_cell? w _ hw286_0)).trans hw286_0)), (World.cell?_alloc_lt _ _ _ (World.block_lt_of_cell? _ _ (((HB.out.cell (World.block_lt_of_cell? w _ hw286_1)).trans hw286_1)))).trans (((HB.out.cell (World.block_lt_of_cell? w _ hw286_1)).trans hw286_1)), (World.cell?_alloc_lt _ _ _ (World.block_lt_of_cell? _ _ (((HB.out.cell (World.block_lt_of_cell? w _ hw286_2)).trans hw286_2)))).trans (((HB.out.cell (World.block_lt_of_cell? w _ hw286_2)).trans hw286_2)), (World.cell?_alloc_lt _ _ _ (World.block_lt_of_cell? _ _ (((HB.out.cell (World.block_lt_of_cell? w _ hw286_3)).trans hw286_3)))).trans (((HB.out.cell (World.block_lt_of_cell? w _ hw286_3)).trans hw286_3))⟩ (fun hHeld => ?_)
         clear hK K
         refine norm_ (a' := ?_) ?_ ?_
         rotate_left
         · show Act.put _ (some 33) _ = _
           simp only [Act.put, sA, sB, sC, i64_w, i32_w]
           rfl
         refine one_ (i := 23) (N := some 34) (pf 25 24) rfl rfl (one_of HT_.out (by kernel_rfl)) (by decide) (fun K hK => ?_)
         refine Kd.R_append_step k79 (w0 := w) w.heap.size (by rfl) (.tmp 11) (.tmp 33) 50 79 (.agg #[(.int .i64 0), (.string ⟨#[]⟩), (.int .i64 0), (.int .i64 0)]) 40 rfl Try.underlying50 info79 rfl (by decide) (by omega) u3 x3_1 (⟨(rd_T66 l0 x4_1).f0, (rd_T66 l0 x4_1).f1, (rd_T66 l0 x4_1).f2, (rd_T66 l0 x4_1).f3⟩ : S79) [.int .i64 ((rd_T66 l0 x4_1).f0), .string ((rd_T66 l0 x4_1).f1), .int .i64 ((rd_T66 l0 x4_1).f2), .int .i64 ((rd_T66 l0 x4_1).f3)] (fun _ => True) (fun _ => False) rfl rfl ?aP (fun _ hk => hk.elim) ?aF ?aO ?aB ?aS ?aL ?_
         (case aP => exact k79_mkM _ _ _ (⟨(rd_T66 l0 x4_1).f0, (rd_T66 l0 x4_1).f1, (rd_T66 l0 x4_1).f2, (rd_T66 l0 x4_1).f3⟩ : S79))
         (case aB => exact (gB HB))
         (case aF => exact (fun _ _ => trivial))
         (case aO => exact (gR HO_3))
         (case aS => exact (below_size (gB HB)))
         (case aL => have := LMc4.out; omega)
         intro v288 w6 ho hb hg hat
         rw [← Ny287.out] at ho
         have n0_ := aK (hb)
         have n1_ := aK (ho)
         clear HB; clear HO_3
         have HB := n0_
         have HO289 := n1_
         clear n0_ n1_; clear ho hb hg hat
         refine hK.out _ _ ⟨((HB.out.cell (World.block_lt_of_cell? w _ hw283_0)).trans hw283_0), ((HB.out.cell (World.block_lt_of_cell? w _ hw283_1)).trans hw283_1), ((HB.out.cell (World.block_lt_of_cell? w _ hw283_2)).trans hw283_2), ((HB.out.cell (World.block_lt_of_cell? w _ hw283_3)).trans hw283_3), ((HB.out.cell (World.block_lt_of_cell? w _ hw284_0)).trans hw284_0), ((HB.out.cell (World.block_lt_of_cell? w _ hw284_1)).trans hw284_1), ((HB.out.cell (World.block_lt_of_cell? w _ hw284_2)).trans hw284_2), ((HB.out.cell (World.block_lt_of_cell? w _ hw284_3)).trans hw284_3), ((HB.out.cell (World.block_lt_of_cell? w _ hw285_0)).trans hw285_0), ((HB.out.cell (World.block_lt_of_cell? w _ hw285_1)).trans hw285_1), ((HB.out.cell (World.block_lt_of_cell? w _ hw285_2)).trans hw285_2), ((HB.out.cell (World.block_lt_of_cell? w _ hw285_3)).trans hw285_3), ((HB.out.cell (World.block_lt_of_cell? w _ hw286_0)).trans hw286_0), ((HB.out.cell (World.block_lt_of_cell? w _ hw286_1)).trans hw286_1), ((HB.out.cell (World.block_lt_of_cell? w _ hw286_2)).trans hw286_2), ((HB.out.cell (World.block_lt_of_cell? w _ hw286_3)).trans hw286_3)⟩ (fun hHeld => ?_)
         clear hK K
         refine norm_ (a' := ?_) ?_ ?_
         rotate_left
         · show Act.put _ (some 34) _ = _
           simp only [Act.put, sA, sB, sC, i64_w, i32_w]
           rfl
         refine pA (i := 24) (N := some 3) HT_ (pf 25 25) ?_
         refine done_ (done_of HT_.out (by kernel_rfl)) ?_
         try go_wp2
         go_roundg k1
         case measure => have := HK1.out; omega
         case rel => exact ⟨(y287), (wrap64 (x4_1 + 1)), ac, H', ⟨by have := HK1.out; omega⟩, ⟨gR HO289⟩, ⟨gB HB⟩⟩
       · rw [if_neg c4] at H
         exact absurd H (by simp)
     · rw [if_neg c3] at H
       exact absurd H (by simp)
   · rw [if_neg c2] at H
     have c2b0 := dF c2
     clear c2
     obtain rfl := Option.some.inj H
     go_wp2
     go_ret
     exact ⟨_, by first | rfl | (simp [errW_none, errW_some] <;> rfl) | (simp [*, errW_none, errW_some] <;> rfl), gR HO_3, gB HB⟩
def q25q.f (a0 : Int) : Option (Bool) := if a0 ≥ 1 then (some (decide (a0 ≤ 1125899906842624))) else (some false)
set_option maxHeartbeats 8000000 in
set_option maxRecDepth 100000 in
theorem q25q.calls (a0 : Int) (r : Bool) (w : World) (h : q25q.f a0 = some r) :
 Calls Try.prog 50 #[.int .i64 a0] w fun e w' => e = .returned (.bool r) ∧ Drawn0 w w' := by
 have H : (if a0 ≥ 1 then (some (decide (a0 ≤ 1125899906842624))) else (some false)) = some r := h
 clear h
 by_cases c2 : a0 ≥ 1
 · rw [if_pos c2] at H
   have c2b0 : decide (1 ≤ a0) = true := decide_eq_true c2
   clear c2
   obtain rfl := Option.some.inj H
   go_enter Try.func50, Try.ntmps50
   go_wp2
   go_ret
   exact dn
 · rw [if_neg c2] at H
   have c2b0 : decide (1 ≤ a0) = false := decide_eq_false c2
   clear c2
   obtain rfl := Option.some.inj H
   go_enter Try.func50, Try.ntmps50
   go_wp2
   go_ret
   exact dn
def q18q.l0 : Nat → List (S63) → Int → Option (Int × Int)
 | 0, _, _ => none
 | k + 1, x0, x4 => if x4 < (x0.length : Int) then (if 0 ≤ x4 then ((q25q.f ((rd_T63 x0 x4).f1)).bind fun t291 => (if t291 = true then (if x4 > 0 then (if 0 ≤ (wrap64 (x4 - 1)) then (if (wrap64 (x4 - 1)) < (x0.length : Int) then (if ((Op.bytesLess (((rd_T63 x0 (wrap64 (x4 - 1))).f0).toList) (((rd_T63 x0 x4).f0).toList)) = true) then (q18q.l0 k x0 (wrap64 (x4 + 1))) else (some (x4, 7))) else (none)) else (none)) else (q18q.l0 k x0 (wrap64 (x4 + 1)))) else (some (x4, 1)))) else (none)) else (some ((x0.length : Int), 0))
def q18q.f (k : Nat) (l0 : List (S63)) : Option (Int × Int) := if (l0.length : Int) > 64 then (some (0, 2)) else (q18q.l0 k l0 0)
theorem q18q.mono_l : ∀ k, (∀ y0 y1, LeO (q18q.l0 k y0 y1) (q18q.l0 (k + 1) y0 y1))
 | 0 => fun _ _ r h => by simp [q18q.l0] at h
 | k + 1 => by
  have ih0 := q18q.mono_l k
  · intro y0 y1
    unfold q18q.l0
    repeat' first
    | (with_reducible exact ih0 _ _)
    | (with_reducible exact LeO.refl _)
    | (with_reducible exact LeO.none _)
    | (with_reducible refine LeO.ite ?_ ?_)
    | (with_reducible refine LeO.bind ?_ (fun _ => ?_))
    | exact ih0 _ _
    | exact LeO.none _
    | refine LeO.ite ?_ ?_
    | refine LeO.bind ?_ (fun _ => ?_)
theorem q18q.mono : ∀ a0 k, LeO (q18q.f k a0) (q18q.f (k + 1) a0) := by
 intro a0 k
 have ih0 := q18q.mono_l k
 unfold q18q.f
 repeat' first
  | (with_reducible exact ih0 _ _)
  | (with_reducible exact LeO.refl _)
  | (with_reducible exact LeO.none _)
  | (with_reducible refine LeO.ite ?_ ?_)
  | (with_reducible refine LeO.bind ?_ (fun _ => ?_))
  | exact ih0 _ _
  | exact LeO.none _
  | refine LeO.ite ?_ ?_
  | refine LeO.bind ?_ (fun _ => ?_)
set_option maxHeartbeats 8000000 in
set_option maxRecDepth 100000 in
theorem q18q.calls (k : Nat) (A0 : Option Addr) (c0 : Nat) (l0 : List (S63)) (r1 : Int) (r2 : Int) (w : World) (hr0 : Kd.C k63 w A0 l0.length l0) (hc0 : l0.length ≤ c0) (h : q18q.f k l0 = some (r1, r2)) :
 Calls Try.prog 36 #[.slice A0 l0.length c0] w fun e w' => e = .returned (.tuple #[.int .i64 r1, .int .i64 r2]) ∧ Drawn0 w w' := by
 have HR0 := Aside0.mk hr0; have HC0 := Aside0.mk hc0; clear hr0 hc0
 have H : (if (l0.length : Int) > 64 then (some (0, 2)) else (q18q.l0 k l0 0)) = some (r1, r2) := h
 clear h
 by_cases c2 : (l0.length : Int) > 64
 · rw [if_pos c2] at H
   have c2b0 : decide (64 < (l0.length : Int)) = true := decide_eq_true c2
   have c2b1 : decide (64 < l0.length) = true := decide_eq_true (by omega)
   clear c2
   simp only [Option.some.injEq, Prod.mk.injEq] at H
   obtain ⟨rfl, rfl⟩ := H
   go_enter Try.func36, Try.ntmps36
   go_wp2
   repeat (go_quiet (fail); try go_wp2)
   go_ret2
   exact dn
 · rw [if_neg c2] at H
   have c2b0 : decide (64 < (l0.length : Int)) = false := decide_eq_false c2
   have c2b1 : decide (64 < l0.length) = false := decide_eq_false (by omega)
   clear c2
   have H' := Aside0.mk H
   clear H
   go_enter Try.func36, Try.ntmps36
   go_wp2
   repeat (go_quiet (fail); try go_wp2)
   go_loopg [4] k (fun kq v4 w' => ∃ (x4_1 : Int), v4 = .int .i64 x4_1 ∧ Aside0 (q18q.l0 kq l0 x4_1 = some (r1, r2)) ∧ Aside0 (kq ≤ k) ∧ Drawn0 w w')
   case atStart => exact ⟨(0), ac, H', ⟨Nat.le_refl _⟩, dr⟩
   case round =>
    clear H'; (try clear c2); (try clear c2b0); (try clear c2b1)
    obtain ⟨x4_1, rfl, HA, HK1, ⟨m1, rfl⟩⟩ := hrel
    cases gk with
    | zero => exact absurd HA.out (by simp [q18q.l0])
    | succ k1 =>
     have H := HA.out
     clear HA
     simp only [q18q.l0] at H
     by_cases c3 : x4_1 < (l0.length : Int)
     · rw [if_pos c3] at H
       have c3b0 := dT c3
       clear c3
       by_cases c4 : 0 ≤ x4_1
       · rw [if_pos c4] at H
         have c4b0 := dT c4
         clear c4
         replace H := Option.bind_eq_some_iff.mp H
         obtain ⟨t291, A50, H⟩ := H
         replace H : (if t291 = true then (if x4_1 > 0 then (if 0 ≤ (wrap64 (x4_1 - 1)) then (if (wrap64 (x4_1 - 1)) < (l0.length : Int) then (if ((Op.bytesLess (((rd_T63 l0 (wrap64 (x4_1 - 1))).f0).toList) (((rd_T63 l0 x4_1).f0).toList)) = true) then (q18q.l0 k1 l0 (wrap64 (x4_1 + 1))) else (some (x4_1, 7))) else (none)) else (none)) else (q18q.l0 k1 l0 (wrap64 (x4_1 + 1)))) else (some (x4_1, 1))) = some (r1, r2) := H
         have A5 := Aside0.mk A50; clear A50
         by_cases c6 : t291 = true
         · subst c6
           replace H : (if x4_1 > 0 then (if 0 ≤ (wrap64 (x4_1 - 1)) then (if (wrap64 (x4_1 - 1)) < (l0.length : Int) then (if ((Op.bytesLess (((rd_T63 l0 (wrap64 (x4_1 - 1))).f0).toList) (((rd_T63 l0 x4_1).f0).toList)) = true) then (q18q.l0 k1 l0 (wrap64 (x4_1 + 1))) else (some (x4_1, 7))) else (none)) else (none)) else (q18q.l0 k1 l0 (wrap64 (x4_1 + 1)))) = some (r1, r2) := by rw [if_pos rfl] at H; exact H
           by_cases c7 : x4_1 > 0
           · rw [if_pos c7] at H
             have c7b0 : decide (0 < x4_1) = true := decide_eq_true c7
             clear c7
             obtain ⟨ji8, hji8⟩ : ∃ j_ : Int, (wrap64 (x4_1 - 1)) = j_ := ⟨_, rfl⟩
             replace H : (if 0 ≤ (ji8) then (if (ji8) < (l0.length : Int) then (if ((Op.bytesLess (((rd_T63 l0 (ji8)).f0).toList) (((rd_T63 l0 x4_1).f0).toList)) = true) then (q18q.l0 k1 l0 (wrap64 (x4_1 + 1))) else (some (x4_1, 7))) else (none)) else (none)) = some (r1, r2) := by first | (rw [hji8] at H; exact H) | (simp only [hji8] at H ⊢; exact H)
             (try rw [hji8] at A5)
             have hji8w : (IntKind.i64.wrap (x4_1 - 1)) = ji8 := (i64_w _).trans hji8
             by_cases c9 : 0 ≤ (ji8)
             · rw [if_pos c9] at H
               have c9b0 := dT c9
               clear c9
               by_cases c10 : (ji8) < (l0.length : Int)
               · rw [if_pos c10] at H
                 have c10b0 := dT c10
                 clear c10
                 by_cases c11 : ((Op.bytesLess (((rd_T63 l0 (ji8)).f0).toList) (((rd_T63 l0 x4_1).f0).toList)) = true)
                 · rw [if_pos c11] at H
                   have c11b0 : (Op.bytesLess (((rd_T63 l0 (ji8)).f0).toList) (((rd_T63 l0 x4_1).f0).toList)) = true := c11
                   clear c11
                   have H' := Aside0.mk H
                   clear H
                   obtain ⟨⟨p290, q290⟩, ad290, rfl, hx290_0, hx290_1⟩ := za (at_T63 HR0.out) x4_1
                   go_wp2_with (first | (go_at_call 50; (with_reducible refine (q25q.calls ((rd_T63 l0 x4_1).f1) true _ A5.out).mono ?_); rintro e w' ⟨rfl, ⟨nd, rfl⟩⟩; (try first | exact ⟨rfl, _, World.drewN_drewN _ _ _⟩ | exact ⟨rfl, _, Eq.trans (World.drewN_drewN _ _ _) (congrArg (World.drewN _) (Nat.add_assoc _ _ _))⟩); have p292 : 0 ≤ ((ji8) : Int) := od; have q292 : (ji8) < (l0.length : Int) := od; obtain ⟨ad292, e292, hx292_0, hx292_1⟩ := at_T63 HR0.out (ji8) p292 q292; obtain rfl : ad290 = ad292 := (by injection e292); replace p292 := eq_true p292; replace q292 := eq_true q292; have p293 : 0 ≤ (x4_1 : Int) := od; have q293 : x4_1 < (l0.length : Int) := od; obtain ⟨ad293, e293, hx293_0, hx293_1⟩ := at_T63 HR0.out x4_1 p293 q293; obtain rfl : ad290 = ad293 := (by injection e293); replace p293 := eq_true p293; replace q293 := eq_true q293))
                   repeat (go_quiet (fail); try go_wp2_with (first | (go_at_call 50; (with_reducible refine (q25q.calls ((rd_T63 l0 x4_1).f1) true _ A5.out).mono ?_); rintro e w' ⟨rfl, ⟨nd, rfl⟩⟩; (try first | exact ⟨rfl, _, World.drewN_drewN _ _ _⟩ | exact ⟨rfl, _, Eq.trans (World.drewN_drewN _ _ _) (congrArg (World.drewN _) (Nat.add_assoc _ _ _))⟩); have p292 : 0 ≤ ((ji8) : Int) := od; have q292 : (ji8) < (l0.length : Int) := od; obtain ⟨ad292, e292, hx292_0, hx292_1⟩ := at_T63 HR0.out (ji8) p292 q292; obtain rfl : ad290 = ad292 := (by injection e292); replace p292 := eq_true p292; replace q292 := eq_true q292; have p293 : 0 ≤ (x4_1 : Int) := od; have q293 : x4_1 < (l0.length : Int) := od; obtain ⟨ad293, e293, hx293_0, hx293_1⟩ := at_T63 HR0.out x4_1 p293 q293; obtain rfl : ad290 = ad293 := (by injection e293); replace p293 := eq_true p293; replace q293 := eq_true q293)))
                   go_roundg k1
                   case measure => have := HK1.out; omega
                   case rel => exact ⟨(wrap64 (x4_1 + 1)), ac, H', ⟨by have := HK1.out; omega⟩, dr⟩
                 · rw [if_neg c11] at H
                   have c11b0 : (Op.bytesLess (((rd_T63 l0 (ji8)).f0).toList) (((rd_T63 l0 x4_1).f0).toList)) = false := by simpa using c11
                   clear c11
                   simp only [Option.some.injEq, Prod.mk.injEq] at H
                   obtain ⟨rfl, rfl⟩ := H
                   obtain ⟨⟨p290, q290⟩, ad290, rfl, hx290_0, hx290_1⟩ := za (at_T63 HR0.out) x4_1
                   go_wp2_with (first | (go_at_call 50; (with_reducible refine (q25q.calls ((rd_T63 l0 x4_1).f1) true _ A5.out).mono ?_); rintro e w' ⟨rfl, ⟨nd, rfl⟩⟩; (try first | exact ⟨rfl, _, World.drewN_drewN _ _ _⟩ | exact ⟨rfl, _, Eq.trans (World.drewN_drewN _ _ _) (congrArg (World.drewN _) (Nat.add_assoc _ _ _))⟩); have p292 : 0 ≤ ((ji8) : Int) := od; have q292 : (ji8) < (l0.length : Int) := od; obtain ⟨ad292, e292, hx292_0, hx292_1⟩ := at_T63 HR0.out (ji8) p292 q292; obtain rfl : ad290 = ad292 := (by injection e292); replace p292 := eq_true p292; replace q292 := eq_true q292; have p293 : 0 ≤ (x4_1 : Int) := od; have q293 : x4_1 < (l0.length : Int) := od; obtain ⟨ad293, e293, hx293_0, hx293_1⟩ := at_T63 HR0.out x4_1 p293 q293; obtain rfl : ad290 = ad293 := (by injection e293); replace p293 := eq_true p293; replace q293 := eq_true q293))
                   repeat (go_quiet (fail); try go_wp2_with (first | (go_at_call 50; (with_reducible refine (q25q.calls ((rd_T63 l0 x4_1).f1) true _ A5.out).mono ?_); rintro e w' ⟨rfl, ⟨nd, rfl⟩⟩; (try first | exact ⟨rfl, _, World.drewN_drewN _ _ _⟩ | exact ⟨rfl, _, Eq.trans (World.drewN_drewN _ _ _) (congrArg (World.drewN _) (Nat.add_assoc _ _ _))⟩); have p292 : 0 ≤ ((ji8) : Int) := od; have q292 : (ji8) < (l0.length : Int) := od; obtain ⟨ad292, e292, hx292_0, hx292_1⟩ := at_T63 HR0.out (ji8) p292 q292; obtain rfl : ad290 = ad292 := (by injection e292); replace p292 := eq_true p292; replace q292 := eq_true q292; have p293 : 0 ≤ (x4_1 : Int) := od; have q293 : x4_1 < (l0.length : Int) := od; obtain ⟨ad293, e293, hx293_0, hx293_1⟩ := at_T63 HR0.out x4_1 p293 q293; obtain rfl : ad290 = ad293 := (by injection e293); replace p293 := eq_true p293; replace q293 := eq_true q293)))
                   go_ret2
                   exact ⟨by first | rfl | (simp; done) | (simp only [← hji8] <;> (first | rfl | simp)) | (simp [*]; done), dr⟩
               · rw [if_neg c10] at H
                 exact absurd H (by simp)
             · rw [if_neg c9] at H
               exact absurd H (by simp)
           · rw [if_neg c7] at H
             have c7b0 : decide (0 < x4_1) = false := decide_eq_false c7
             clear c7
             have H' := Aside0.mk H
             clear H
             obtain ⟨⟨p290, q290⟩, ad290, rfl, hx290_0, hx290_1⟩ := za (at_T63 HR0.out) x4_1
             go_wp2_with (first | (go_at_call 50; (with_reducible refine (q25q.calls ((rd_T63 l0 x4_1).f1) true _ A5.out).mono ?_); rintro e w' ⟨rfl, ⟨nd, rfl⟩⟩; (try first | exact ⟨rfl, _, World.drewN_drewN _ _ _⟩ | exact ⟨rfl, _, Eq.trans (World.drewN_drewN _ _ _) (congrArg (World.drewN _) (Nat.add_assoc _ _ _))⟩)))
             repeat (go_quiet (fail); try go_wp2_with (first | (go_at_call 50; (with_reducible refine (q25q.calls ((rd_T63 l0 x4_1).f1) true _ A5.out).mono ?_); rintro e w' ⟨rfl, ⟨nd, rfl⟩⟩; (try first | exact ⟨rfl, _, World.drewN_drewN _ _ _⟩ | exact ⟨rfl, _, Eq.trans (World.drewN_drewN _ _ _) (congrArg (World.drewN _) (Nat.add_assoc _ _ _))⟩))))
             go_roundg k1
             case measure => have := HK1.out; omega
             case rel => exact ⟨(wrap64 (x4_1 + 1)), ac, H', ⟨by have := HK1.out; omega⟩, dr⟩
         · replace c6 := Bool.eq_false_iff.mpr c6
           subst c6
           replace H : (some (x4_1, 1)) = some (r1, r2) := by rw [if_neg (show ¬ (false = true) by decide)] at H; exact H
           simp only [Option.some.injEq, Prod.mk.injEq] at H
           obtain ⟨rfl, rfl⟩ := H
           obtain ⟨⟨p290, q290⟩, ad290, rfl, hx290_0, hx290_1⟩ := za (at_T63 HR0.out) x4_1
           go_wp2_with (first | (go_at_call 50; (with_reducible refine (q25q.calls ((rd_T63 l0 x4_1).f1) false _ A5.out).mono ?_); rintro e w' ⟨rfl, ⟨nd, rfl⟩⟩; (try first | exact ⟨rfl, _, World.drewN_drewN _ _ _⟩ | exact ⟨rfl, _, Eq.trans (World.drewN_drewN _ _ _) (congrArg (World.drewN _) (Nat.add_assoc _ _ _))⟩)))
           repeat (go_quiet (fail); try go_wp2_with (first | (go_at_call 50; (with_reducible refine (q25q.calls ((rd_T63 l0 x4_1).f1) false _ A5.out).mono ?_); rintro e w' ⟨rfl, ⟨nd, rfl⟩⟩; (try first | exact ⟨rfl, _, World.drewN_drewN _ _ _⟩ | exact ⟨rfl, _, Eq.trans (World.drewN_drewN _ _ _) (congrArg (World.drewN _) (Nat.add_assoc _ _ _))⟩))))
           go_ret2
           exact dn
       · rw [if_neg c4] at H
         exact absurd H (by simp)
     · rw [if_neg c3] at H
       have c3b0 := dF c3
       clear c3
       simp only [Option.some.injEq, Prod.mk.injEq] at H
       obtain ⟨rfl, rfl⟩ := H
       go_wp2
       repeat (go_quiet (fail); try go_wp2)
       go_ret2
       exact dn
end Go.Proofs.Ytlbhjkbjokiioaa.X
