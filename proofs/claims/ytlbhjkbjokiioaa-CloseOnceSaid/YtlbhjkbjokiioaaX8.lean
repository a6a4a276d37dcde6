-- a shortened text: what this claim does not name is left out (wip/xprint/prune.py of this repo)
import Derived.Test.YtlbhjkbjokiioaaXMin
import Derived.Test.YtlbhjkbjokiioaaX0
namespace Go.Proofs.Ytlbhjkbjokiioaa.X
open Go.RowKit Go.Proofs.YtlbhjkbjokiioaaW.PrintWords Go.Proofs.YtlbhjkbjokiioaaW.PrintLast Go.Proofs.YtlbhjkbjokiioaaW.PrintMore
attribute [local go_sem] max2_int min2_int max_two min_two max_three min_three max_four min_four
set_option linter.unusedVariables false
set_option linter.unusedSimpArgs false
def q3q.l0 : Nat → List (S79) → Int → Int → Int → Int → Option ((List (S79)))
 | 0, _, _, _, _, _ => none
 | k + 1, x0, x1, x2, x3, x10 => if x10 < x3 then (if 0 ≤ (wrap64 (x2 + x10)) then (if (wrap64 (x2 + x10)) < (x0.length : Int) then (if 0 ≤ (wrap64 (x1 + x10)) then (if (wrap64 (x1 + x10)) < (x0.length : Int) then (q3q.l0 k ((x0.set ((wrap64 (x1 + x10)) : Int).toNat (⟨(rd_T79 x0 (wrap64 (x2 + x10))).f0, (rd_T79 x0 (wrap64 (x2 + x10))).f1, (rd_T79 x0 (wrap64 (x2 + x10))).f2, (rd_T79 x0 (wrap64 (x2 + x10))).f3⟩ : S79)).set ((wrap64 (x2 + x10)) : Int).toNat (⟨(rd_T79 x0 (wrap64 (x1 + x10))).f0, (rd_T79 x0 (wrap64 (x1 + x10))).f1, (rd_T79 x0 (wrap64 (x1 + x10))).f2, (rd_T79 x0 (wrap64 (x1 + x10))).f3⟩ : S79)) x1 x2 x3 (wrap64 (x10 + 1))) else (none)) else (none)) else (none)) else (none)) else (some x0)
def q3q.f (k : Nat) (l0 : List (S79)) (a1 : Int) (a2 : Int) (a3 : Int)  : Option ((List (S79))) := q3q.l0 k l0 a1 a2 a3 0
theorem q3q.mono_l : ∀ k, (∀ y0 y1 y2 y3 y4, LeO (q3q.l0 k y0 y1 y2 y3 y4) (q3q.l0 (k + 1) y0 y1 y2 y3 y4))
 | 0 => fun _ _ _ _ _ r h => by simp [q3q.l0] at h
 | k + 1 => by
  have ih0 := q3q.mono_l k
  · intro y0 y1 y2 y3 y4
    unfold q3q.l0
    repeat' first
    | (with_reducible exact ih0 _ _ _ _ _)
    | (with_reducible exact LeO.refl _)
    | (with_reducible exact LeO.none _)
    | (with_reducible refine LeO.ite ?_ ?_)
    | (with_reducible refine LeO.bind ?_ (fun _ => ?_))
    | exact ih0 _ _ _ _ _
    | exact LeO.none _
    | refine LeO.ite ?_ ?_
    | refine LeO.bind ?_ (fun _ => ?_)
theorem q3q.mono : ∀ a0 a1 a2 a3 k, LeO (q3q.f k a0 a1 a2 a3) (q3q.f (k + 1) a0 a1 a2 a3) := by
 intro a0 a1 a2 a3 k
 have ih0 := q3q.mono_l k
 unfold q3q.f
 repeat' first
  | (with_reducible exact ih0 _ _ _ _ _)
  | (with_reducible exact LeO.refl _)
  | (with_reducible exact LeO.none _)
  | (with_reducible refine LeO.ite ?_ ?_)
  | (with_reducible refine LeO.bind ?_ (fun _ => ?_))
  | exact ih0 _ _ _ _ _
  | exact LeO.none _
  | refine LeO.ite ?_ ?_
  | refine LeO.bind ?_ (fun _ => ?_)
def q3q.T3 : Bool × List (List Nat × List Nat) := (true, [([], []), ([], []), ([], []), ([1, 2], [1, 2]), ([], []), ([], []), ([], []), ([5, 6], [5, 6]), ([], []), ([], []), ([], []), ([9, 10], [9, 10]), ([8, 11], [8, 11]), ([12], [12]), ([], []), ([], []), ([], []), ([15, 16], [15, 16]), ([14, 17], [14, 17]), ([18], [18]), ([0, 3, 0, 1, 2, 3, 8, 9, 10, 11, 12, 13, 19], [0, 3]), ([20, 13, 0, 1, 2, 3, 8, 9, 10, 11, 12, 13, 19], [13, 20]), ([4, 7, 0, 1, 2, 3, 4, 5, 6, 7, 8, 9, 10, 11, 12, 13, 14, 15, 16, 17, 18, 19, 20, 21], [4, 7]), ([22, 19, 21, 0, 1, 2, 3, 4, 5, 6, 7, 8, 9, 10, 11, 12, 13, 14, 15, 16, 17, 18, 19, 20, 21], [19, 22])])
def q3q.B3 : List Nat := [0, 0, 0, 6, 0, 0, 0, 96, 0, 0, 0, 1536, 3840, 7936, 0, 0, 0, 98304, 245760, 507904, 1048335, 2096911, 4194303, 8388607]
theorem q3q.tab3 : rtab .any (opsOf Try.f61 3) = q3q.T3 := by kernel_rfl
theorem q3q.bits3 : waitsOk q3q.T3.2 q3q.B3 = true := by kernel_rfl
set_option maxHeartbeats 8000000 in
set_option maxRecDepth 100000 in
theorem q3q.calls (k : Nat) (P0_ : Nat → Prop) (u9000_ : Value) (l0 : List (S79)) (a1 : Int) (a2 : Int) (a3 : Int)  (r : List (S79)) (w0 w : World) (hB : Below w0.heap.size w0 w) (ho0 : Kd.R k79 79 w w0.heap.size P0_ u9000_ l0) (h : q3q.f k l0 a1 a2 a3 = some r) :
 Calls Try.prog 61 #[u9000_, .int .i64 a1, .int .i64 a2, .int .i64 a3, .func (.func 33) #[] #[]] w fun e w' => e = .returned (.tuple #[]) ∧ Kd.R k79 79 w' w0.heap.size (fun k_ => (P0_ k_ ∨ w.heap.size ≤ k_)) u9000_ r ∧ Below w0.heap.size w0 w' ∧ Kept w w' (fun k_ => P0_ k_) := by
 have hu79 := Try.underlying79
 have HO0 := aK (show Kd.R k79 79 w w0.heap.size (fun k_ => (P0_ k_ ∨ w.heap.size ≤ k_)) u9000_ l0 from Kd.R_mono ho0 (fun k_ hk => (.inl hk)))
 have HK := aK (Kept.refl w (fun k_ => P0_ k_))
 have HW0 := Aside0.mk hB.size
 have HB := Aside0.mk hB; clear hB
 have H : (q3q.l0 k l0 a1 a2 a3 0) = some r := h
 clear h
 have H' := Aside0.mk H
 clear H
 go_enter Try.func61, Try.ntmps61
 go_wp2
 go_loopg [10] k (fun kq v10 w' => ∃ (x0_1 : List (S79)) (x10_1 : Int), v10 = .int .i64 x10_1 ∧ Aside0 (q3q.l0 kq x0_1 a1 a2 a3 x10_1 = some r) ∧ Aside0 (kq ≤ k) ∧ Aside0 (Kd.R k79 79 w' w0.heap.size (fun k_ => (P0_ k_ ∨ w.heap.size ≤ k_)) u9000_ x0_1) ∧ Aside0 (Kept w w' (fun k_ => P0_ k_)) ∧ Aside0 (Below w0.heap.size w0 w'))
 case atStart => exact ⟨(l0), (0), ac, H', ⟨Nat.le_refl _⟩, ⟨gR HO0⟩, ⟨gP HK⟩, ⟨gB HB⟩⟩
 case round =>
  clear H'
  obtain ⟨x0_1, x10_1, rfl, HA, HK1, HO_0, HK, HB⟩ := hrel
  cases gk with
  | zero => exact absurd HA.out (by simp [q3q.l0])
  | succ k1 =>
   have H := HA.out
   clear HA
   simp only [q3q.l0] at H
   by_cases c6 : x10_1 < a3
   · rw [if_pos c6] at H
     have c6b0 := dT c6
     clear c6
     obtain ⟨ji7, hji7⟩ : ∃ j_ : Int, (wrap64 (a2 + x10_1)) = j_ := ⟨_, rfl⟩
     replace H : (if 0 ≤ (ji7) then (if (ji7) < (x0_1.length : Int) then (if 0 ≤ (wrap64 (a1 + x10_1)) then (if (wrap64 (a1 + x10_1)) < (x0_1.length : Int) then (q3q.l0 k1 ((x0_1.set ((wrap64 (a1 + x10_1)) : Int).toNat (⟨(rd_T79 x0_1 (ji7)).f0, (rd_T79 x0_1 (ji7)).f1, (rd_T79 x0_1 (ji7)).f2, (rd_T79 x0_1 (ji7)).f3⟩ : S79)).set ((ji7) : Int).toNat (⟨(rd_T79 x0_1 (wrap64 (a1 + x10_1))).f0, (rd_T79 x0_1 (wrap64 (a1 + x10_1))).f1, (rd_T79 x0_1 (wrap64 (a1 + x10_1))).f2, (rd_T79 x0_1 (wrap64 (a1 + x10_1))).f3⟩ : S79)) a1 a2 a3 (wrap64 (x10_1 + 1))) else (none)) else (none)) else (none)) else (none)) = some r := by first | (rw [hji7] at H; exact H) | (simp only [hji7] at H ⊢; exact H)
     have hji7w : (IntKind.i64.wrap (a2 + x10_1)) = ji7 := (i64_w _).trans hji7
     by_cases c8 : 0 ≤ (ji7)
     · rw [if_pos c8] at H
       have c8b0 := dT c8
       clear c8
       by_cases c9 : (ji7) < (x0_1.length : Int)
       · rw [if_pos c9] at H
         have c9b0 := dT c9
         clear c9
         obtain ⟨ji10, hji10⟩ : ∃ j_ : Int, (wrap64 (a1 + x10_1)) = j_ := ⟨_, rfl⟩
         replace H : (if 0 ≤ (ji10) then (if (ji10) < (x0_1.length : Int) then (q3q.l0 k1 ((x0_1.set ((ji10) : Int).toNat (⟨(rd_T79 x0_1 (ji7)).f0, (rd_T79 x0_1 (ji7)).f1, (rd_T79 x0_1 (ji7)).f2, (rd_T79 x0_1 (ji7)).f3⟩ : S79)).set ((ji7) : Int).toNat (⟨(rd_T79 x0_1 (ji10)).f0, (rd_T79 x0_1 (ji10)).f1, (rd_T79 x0_1 (ji10)).f2, (rd_T79 x0_1 (ji10)).f3⟩ : S79)) a1 a2 a3 (wrap64 (x10_1 + 1))) else (none)) else (none)) = some r := by first | (rw [hji10] at H; exact H) | (simp only [hji10] at H ⊢; exact H)
         have hji10w : (IntKind.i64.wrap (a1 + x10_1)) = ji10 := (i64_w _).trans hji10
         by_cases c11 : 0 ≤ (ji10)
         · rw [if_pos c11] at H
           have c11b0 := dT c11
           clear c11
           by_cases c12 : (ji10) < (x0_1.length : Int)
           · rw [if_pos c12] at H
             have c12b0 := dT c12
             clear c12
             obtain ⟨y231, hy_⟩ : ∃ y_ : List (S79), y_ = (x0_1.set ((ji10) : Int).toNat (⟨(rd_T79 x0_1 (ji7)).f0, (rd_T79 x0_1 (ji7)).f1, (rd_T79 x0_1 (ji7)).f2, (rd_T79 x0_1 (ji7)).f3⟩ : S79)) := ⟨_, rfl⟩
             replace H : (q3q.l0 k1 (y231.set ((ji7) : Int).toNat (⟨(rd_T79 x0_1 (ji10)).f0, (rd_T79 x0_1 (ji10)).f1, (rd_T79 x0_1 (ji10)).f2, (rd_T79 x0_1 (ji10)).f3⟩ : S79)) a1 a2 a3 (wrap64 (x10_1 + 1))) = some r := h2
             have Ny231 := Aside0.mk hy_; clear hy_
             obtain ⟨y232, hy_⟩ : ∃ y_ : List (S79), y_ = (y231.set ((ji7) : Int).toNat (⟨(rd_T79 x0_1 (ji10)).f0, (rd_T79 x0_1 (ji10)).f1, (rd_T79 x0_1 (ji10)).f2, (rd_T79 x0_1 (ji10)).f3⟩ : S79)) := ⟨_, rfl⟩
             replace H : (q3q.l0 k1 y232 a1 a2 a3 (wrap64 (x10_1 + 1))) = some r := h2
             have Ny232 := Aside0.mk hy_; clear hy_
             have H' := Aside0.mk H
             clear H
             try go_wp2
             have n0_ := aK (Kd.R_drew HO_0.out)
             have n1_ := aK (Kept.drew HK.out)
             have n2_ := aK (below_drew1 HB.out)
             clear HO_0; clear HK; clear HB
             have HO_0 := n0_
             have HK := n1_
             have HB := n2_
             clear n0_ n1_ n2_
             obtain ⟨Ao16, co16, eo16⟩ := Kd.R_slice HO_0.out
             (first | subst eo16 | (injection eo16 with f1_ f2_ f3_; have f4_ := f1_.symm; have f5_ := f3_.symm; clear f1_ f2_ f3_; subst f4_; subst f5_))
             obtain ⟨⟨p229, q229⟩, ad229, rfl, hx229_0, hx229_1, hx229_2, hx229_3⟩ := za (at_T79 (Kd.R_reads' HO_0.out).2.2) (ji7)
             obtain ⟨⟨p230, q230⟩, ad230, e230, hx230_0, hx230_1, hx230_2, hx230_3⟩ := za (at_T79 (Kd.R_reads' HO_0.out).2.2) (ji10)
             obtain rfl : ad229 = ad230 := (by injection e230)
             have p13 : 0 ≤ ((ji10) : Int) := od
             have q13 : ((ji10) : Int) < ((x0_1.length : Int) : Int) := od
             obtain ⟨go13, co13, eo13, gb13, gl13, cl13, HG13⟩ := Kd.R_form HO_0.out (by omega)
             (first | cases eo13 | (injection eo13 with ea_ en_ ec_; (first | subst ea_ | (injection ea_ with ea_; subst ea_)); subst ec_; clear en_))
             have GB13 := Aside0.mk gb13; have GG13 := Aside0.mk HG13; clear gb13 gl13 HG13
             have HMgo13 := aK (show (P0_ go13 ∨ w.heap.size ≤ go13) from (HO_0.out.1 _ rfl))
             (first | simp only [add_plain] at hx229_0 | skip)
             (first | simp only [add_plain] at hx229_1 | skip)
             (first | simp only [add_plain] at hx229_2 | skip)
             (first | simp only [add_plain] at hx229_3 | skip)
             (first | simp only [add_plain] at hx230_0 | skip)
             (first | simp only [add_plain] at hx230_1 | skip)
             (first | simp only [add_plain] at hx230_2 | skip)
             (first | simp only [add_plain] at hx230_3 | skip)
             obtain ⟨ce13, hcl13, hM13, hcc13, hfr13⟩ := Kd.R_elem HO_0.out z79 ((ji10) : Int) p13 q13
             obtain rfl := k79_openM hM13
             have hx13_0 : World.cell? _ ⟨go13, ((ji10) : Int).toNat * 4, none⟩ = some (.int .i64 ((rd_T79 x0_1 (ji10)).f0)) := hcc13 0 _ rfl
             have hx13_1 : World.cell? _ ⟨go13, ((ji10) : Int).toNat * 4 + 1, none⟩ = some (.string ((rd_T79 x0_1 (ji10)).f1)) := hcc13 1 _ rfl
             have hx13_2 : World.cell? _ ⟨go13, ((ji10) : Int).toNat * 4 + 2, none⟩ = some (.int .i64 ((rd_T79 x0_1 (ji10)).f2)) := hcc13 2 _ rfl
             have hx13_3 : World.cell? _ ⟨go13, ((ji10) : Int).toNat * 4 + 3, none⟩ = some (.int .i64 ((rd_T79 x0_1 (ji10)).f3)) := hcc13 3 _ rfl
             have hf13_0 : World.frozen? _ ⟨go13, ((ji10) : Int).toNat * 4, none⟩ = false := hfr13 0
             have hf13_1 : World.frozen? _ ⟨go13, ((ji10) : Int).toNat * 4 + 1, none⟩ = false := hfr13 1
             have hf13_2 : World.frozen? _ ⟨go13, ((ji10) : Int).toNat * 4 + 2, none⟩ = false := hfr13 2
             have hf13_3 : World.frozen? _ ⟨go13, ((ji10) : Int).toNat * 4 + 3, none⟩ = false := hfr13 3
             clear hcl13 hcc13 hfr13 hM13; replace p13 := eq_true p13; replace q13 := eq_true q13
             obtain ⟨ce17, hcl17, hM17, hcc17, hfr17⟩ := Kd.R_elem HO_0.out z79 ((ji10) : Int) (od) (by have h_ : ((ji10) : Int) < ((x0_1.length : Int) : Int) := od; first | exact h_ | (have e_ := (Kd.R_reads' HO_0.out).1; omega) | simpa using h_)
             obtain rfl := k79_openM hM17
             have HP17 := (Kd.R_seg HO_0.out ((ji10) : Int) (od) (by have h_ : ((ji10) : Int) < ((x0_1.length : Int) : Int) := od; first | exact h_ | (have e_ := (Kd.R_reads' HO_0.out).1; omega) | simpa using h_) (seg := [.int .i64 ((rd_T79 x0_1 (ji7)).f0), .string ((rd_T79 x0_1 (ji7)).f1), .int .i64 ((rd_T79 x0_1 (ji7)).f2), .int .i64 ((rd_T79 x0_1 (ji7)).f3)]) (j := 0) hcl17 hcc17 (show 4 ≤ 4 from by decide) (x' := (⟨(rd_T79 x0_1 (ji7)).f0, (rd_T79 x0_1 (ji7)).f1, (rd_T79 x0_1 (ji7)).f2, (rd_T79 x0_1 (ji7)).f3⟩ : S79)) (k79_mkM _ _ _ (⟨(rd_T79 x0_1 (ji7)).f0, (rd_T79 x0_1 (ji7)).f1, (rd_T79 x0_1 (ji7)).f2, (rd_T79 x0_1 (ji7)).f3⟩ : S79) ) (fun _ hk => hk)).1
             rw [← Ny231.out] at HP17
             have HQ17 := Aside0.mk HP17; clear hcl17 hcc17 hfr17 hM17 HP17
             have p14 : 0 ≤ ((ji7) : Int) := od
             have q14 : ((ji7) : Int) < ((x0_1.length : Int) : Int) := od
             obtain ⟨ce14, hcl14, hM14, hcc14, hfr14⟩ := Kd.R_elem HQ17.out z79 ((ji7) : Int) p14 q14
             obtain rfl := k79_openM hM14
             have hx14_0 : World.cell? _ ⟨go13, ((ji7) : Int).toNat * 4, none⟩ = some (.int .i64 ((rd_T79 y231 (ji7)).f0)) := hcc14 0 _ rfl
             have hx14_1 : World.cell? _ ⟨go13, ((ji7) : Int).toNat * 4 + 1, none⟩ = some (.string ((rd_T79 y231 (ji7)).f1)) := hcc14 1 _ rfl
             have hx14_2 : World.cell? _ ⟨go13, ((ji7) : Int).toNat * 4 + 2, none⟩ = some (.int .i64 ((rd_T79 y231 (ji7)).f2)) := hcc14 2 _ rfl
             have hx14_3 : World.cell? _ ⟨go13, ((ji7) : Int).toNat * 4 + 3, none⟩ = some (.int .i64 ((rd_T79 y231 (ji7)).f3)) := hcc14 3 _ rfl
             have hf14_0 : World.frozen? _ ⟨go13, ((ji7) : Int).toNat * 4, none⟩ = false := hfr14 0
             have hf14_1 : World.frozen? _ ⟨go13, ((ji7) : Int).toNat * 4 + 1, none⟩ = false := hfr14 1
             have hf14_2 : World.frozen? _ ⟨go13, ((ji7) : Int).toNat * 4 + 2, none⟩ = false := hfr14 2
             have hf14_3 : World.frozen? _ ⟨go13, ((ji7) : Int).toNat * 4 + 3, none⟩ = false := hfr14 3
             clear hcl14 hcc14 hfr14 hM14; replace p14 := eq_true p14; replace q14 := eq_true q14
             obtain ⟨ce18, hcl18, hM18, hcc18, hfr18⟩ := Kd.R_elem HQ17.out z79 ((ji7) : Int) (od) (by have h_ : ((ji7) : Int) < ((x0_1.length : Int) : Int) := od; first | exact h_ | (have e_ := (Kd.R_reads' HO_0.out).1; omega) | simpa using h_)
             obtain rfl := k79_openM hM18
             have HP18 := (Kd.R_seg HQ17.out ((ji7) : Int) (od) (by have h_ : ((ji7) : Int) < ((x0_1.length : Int) : Int) := od; first | exact h_ | (have e_ := (Kd.R_reads' HO_0.out).1; omega) | simpa using h_) (seg := [.int .i64 ((rd_T79 x0_1 (ji10)).f0), .string ((rd_T79 x0_1 (ji10)).f1), .int .i64 ((rd_T79 x0_1 (ji10)).f2), .int .i64 ((rd_T79 x0_1 (ji10)).f3)]) (j := 0) hcl18 hcc18 (show 4 ≤ 4 from by decide) (x' := (⟨(rd_T79 x0_1 (ji10)).f0, (rd_T79 x0_1 (ji10)).f1, (rd_T79 x0_1 (ji10)).f2, (rd_T79 x0_1 (ji10)).f3⟩ : S79)) (k79_mkM _ _ _ (⟨(rd_T79 x0_1 (ji10)).f0, (rd_T79 x0_1 (ji10)).f1, (rd_T79 x0_1 (ji10)).f2, (rd_T79 x0_1 (ji10)).f3⟩ : S79) ) (fun _ hk => hk)).1
             rw [← Ny232.out] at HP18
             have HQ18 := Aside0.mk HP18; clear hcl18 hcc18 hfr18 hM18 HP18
             refine start_ (n := 24) (S := fun w' => w'.cell? ⟨go13, ((ji7)).toNat * 4, none⟩ = some (.int .i64 ((rd_T79 x0_1 (ji7)).f0)) ∧ w'.cell? ⟨go13, ((ji7)).toNat * 4 + 1, none⟩ = some (.string ((rd_T79 x0_1 (ji7)).f1)) ∧ w'.cell? ⟨go13, ((ji7)).toNat * 4 + 2, none⟩ = some (.int .i64 ((rd_T79 x0_1 (ji7)).f2)) ∧ w'.cell? ⟨go13, ((ji7)).toNat * 4 + 3, none⟩ = some (.int .i64 ((rd_T79 x0_1 (ji7)).f3)) ∧ w'.cell? ⟨go13, ((ji10)).toNat * 4, none⟩ = some (.int .i64 ((rd_T79 x0_1 (ji10)).f0)) ∧ w'.cell? ⟨go13, ((ji10)).toNat * 4 + 1, none⟩ = some (.string ((rd_T79 x0_1 (ji10)).f1)) ∧ w'.cell? ⟨go13, ((ji10)).toNat * 4 + 2, none⟩ = some (.int .i64 ((rd_T79 x0_1 (ji10)).f2)) ∧ w'.cell? ⟨go13, ((ji10)).toNat * 4 + 3, none⟩ = some (.int .i64 ((rd_T79 x0_1 (ji10)).f3))) (ds := [21, 23]) (pf 24 0) (by kernel_rfl) rfl rfl ⟨hx229_0, hx229_1, hx229_2, hx229_3, hx230_0, hx230_1, hx230_2, hx230_3⟩ (fun hHeld => ?_); refine with_tabW q3q.tab3 q3q.bits3 (fun HT_ HW_ => ?_)
             generalize wr.drew = w15 at HO_0 HK HB GG13 HQ17 HQ18 hf13_0 hf13_1 hf13_2 hf13_3 hf14_0 hf14_1 hf14_2 hf14_3 hx13_0 hx13_1 hx13_2 hx13_3 hx14_0 hx14_1 hx14_2 hx14_3 hx229_0 hx229_1 hx229_2 hx229_3 hx230_0 hx230_1 hx230_2 hx230_3 hHeld ⊢
             refine pA (i := 0) (N := some 16) HT_ (pf 24 1) ?_
             refine pA (i := 1) (N := some 17) HT_ (pf 24 2) ?_
             refine pA (i := 2) (N := some 18) HT_ (pf 24 3) ?_
             refine pA (i := 3) (N := some 19) HT_ (pf 24 4) ?_
             refine pA (i := 4) (N := some 20) HT_ (pf 24 5) ?_
             refine pA (i := 5) (N := some 21) HT_ (pf 24 6) ?_
             refine pA (i := 6) (N := some 22) HT_ (pf 24 7) ?_
             refine pA (i := 7) (N := some 23) HT_ (pf 24 8) ?_
             refine pA (i := 8) (N := some 24) HT_ (pf 24 9) ?_
             refine pA (i := 9) (N := some 25) HT_ (pf 24 10) ?_
             refine pA (i := 10) (N := some 26) HT_ (pf 24 11) ?_
             refine pA (i := 11) (N := some 27) HT_ (pf 24 12) ?_
             refine pA (i := 12) (N := some 28) HT_ (pf 24 13) ?_
             refine pA (i := 14) (N := some 30) HT_ (ba 24 24575) ?_
             refine pA (i := 15) (N := some 31) HT_ (ba 24 57343) ?_
             refine pA (i := 16) (N := some 32) HT_ (ba 24 122879) ?_
             refine pA (i := 17) (N := some 33) HT_ (ba 24 253951) ?_
             refine pA (i := 18) (N := some 34) HT_ (ba 24 516095) ?_
             refine take_ (i := 13) (N := some 29) (v := ?_) (a' := ?_) (pf 24 19) rfl rfl (take_ofW HT_.out HW_.out (by kernel_rfl)) (fun _ _ _ h => h) (Or.inl ⟨by rfl, ?_⟩) hHeld ?_ ?_
             rotate_left
             · rintro w' ⟨s0, s1, s2, s3, s4, s5, s6, s7⟩
               go_simp
               with_reducible rfl
             rotate_left
             · simp only [Act.put, sA, sB, sC, i64_w, i32_w]
               rfl
             refine take_ (i := 19) (N := some 35) (v := ?_) (a' := ?_) (pf 24 20) rfl rfl (take_ofW HT_.out HW_.out (by kernel_rfl)) (fun _ _ _ h => h) (Or.inl ⟨by rfl, ?_⟩) hHeld ?_ ?_
             rotate_left
             · rintro w' ⟨s0, s1, s2, s3, s4, s5, s6, s7⟩
               go_simp
               with_reducible rfl
             rotate_left
             · simp only [Act.put, sA, sB, sC, i64_w, i32_w]
               rfl
             refine pA (i := 20) (N := some 36) HT_ (pf 24 21) ?_
             refine last_ (i := 21) (N := none) (pf 24 22) rfl rfl (one_of HT_.out (by kernel_rfl)) (by decide) (fun K hK => ?_)
             refine skip_ (by rfl) rfl (st_skip HO_0 z79 ((ji10) : Int) (od) (by have h_ : ((ji10) : Int) < ((x0_1.length : Int) : Int) := od; first | exact h_ | (have e_ := (Kd.R_reads' HO_0.out).1; omega) | simpa using h_) [.int .i64 ((rd_T79 x0_1 (ji7)).f0), .string ((rd_T79 x0_1 (ji7)).f1), .int .i64 ((rd_T79 x0_1 (ji7)).f2), .int .i64 ((rd_T79 x0_1 (ji7)).f3)] rfl (by rfl) rfl (by go_simp) rfl (by kernel_rfl) (by simp [Value.oneCell'])) ?_
             refine hK.out _ _ ?_
             clear hK K
             generalize hz_ : World.setCells w15 go13 (Int.toNat ((ji10) : Int) * k79.sz + 0) [.int .i64 ((rd_T79 x0_1 (ji7)).f0), .string ((rd_T79 x0_1 (ji7)).f1), .int .i64 ((rd_T79 x0_1 (ji7)).f2), .int .i64 ((rd_T79 x0_1 (ji7)).f3)] = wz_ at HQ17 HQ18 ⊢
             refine pA (i := 22) (N := some 37) HT_ (pf 24 23) ?_
             refine last_ (i := 23) (N := none) (pf 24 24) rfl rfl (one_of HT_.out (by kernel_rfl)) (by decide) (fun K hK => ?_)
             refine skip_ (by rfl) rfl (st_skip HQ17 z79 ((ji7) : Int) (od) (by have h_ : ((ji7) : Int) < ((x0_1.length : Int) : Int) := od; first | exact h_ | (have e_ := (Kd.R_reads' HO_0.out).1; omega) | simpa using h_) [.int .i64 ((rd_T79 x0_1 (ji10)).f0), .string ((rd_T79 x0_1 (ji10)).f1), .int .i64 ((rd_T79 x0_1 (ji10)).f2), .int .i64 ((rd_T79 x0_1 (ji10)).f3)] rfl (by rfl) rfl (by go_simp) rfl (by kernel_rfl) (by simp [Value.oneCell'])) ?_
             refine hK.out _ _ ?_
             clear hK K; subst hz_
             refine done_ (done_of HT_.out (by kernel_rfl)) ?_
             try go_wp2
             go_roundg k1
             case measure => have := HK1.out; omega
             case rel => exact ⟨(y232), (wrap64 (x10_1 + 1)), ac, H', ⟨by have := HK1.out; omega⟩, ⟨gR HQ18⟩, ⟨gQ HK⟩, ⟨gS HB⟩⟩
           · rw [if_neg c12] at H
             exact absurd H (by simp)
         · rw [if_neg c11] at H
           exact absurd H (by simp)
       · rw [if_neg c9] at H
         exact absurd H (by simp)
     · rw [if_neg c8] at H
       exact absurd H (by simp)
   · rw [if_neg c6] at H
     have c6b0 := dF c6
     clear c6
     obtain rfl := Option.some.inj H
     go_wp2
     first | go_end0 | ((try simp only [Exit.inBlock, Exit.then]); refine bodyPost_ret (results_none rfl _ _ _) rfl ?_)
     exact ⟨by first | rfl | (simp [errW_none, errW_some] <;> rfl) | (simp [*, errW_none, errW_some] <;> rfl), gR HO_0, gB HB, gP HK⟩
def q6q.l0 : Nat → List (S79) → Int → Int → Int → Option ((List (S79)))
 | 0, _, _, _, _ => none
 | k + 1, x0, x2, x10, x11 => if x10 = x11 then ((q3q.f k x0 (wrap64 (x2 - x10)) x2 x10).bind fun t233 => (some t233)) else (if x10 > x11 then ((q3q.f k x0 (wrap64 (x2 - x10)) x2 x11).bind fun t234 => (q6q.l0 k t234 x2 (wrap64 (x10 - x11)) x11)) else ((q3q.f k x0 (wrap64 (x2 - x10)) (wrap64 ((wrap64 (x2 + x11)) - x10)) x10).bind fun t235 => (q6q.l0 k t235 x2 x10 (wrap64 (x11 - x10)))))
def q6q.f (k : Nat) (l0 : List (S79)) (a1 : Int) (a2 : Int) (a3 : Int)  : Option ((List (S79))) := q6q.l0 k l0 a2 (wrap64 (a2 - a1)) (wrap64 (a3 - a2))
theorem q6q.mono_l : ∀ k, (∀ y0 y1 y2 y3, LeO (q6q.l0 k y0 y1 y2 y3) (q6q.l0 (k + 1) y0 y1 y2 y3))
 | 0 => fun _ _ _ _ r h => by simp [q6q.l0] at h
 | k + 1 => by
  have ih0 := q6q.mono_l k
  · intro y0 y1 y2 y3
    unfold q6q.l0
    repeat' first
    | (with_reducible exact ih0 _ _ _ _)
    | (with_reducible exact q3q.mono _ _ _ _ _)
    | (with_reducible exact LeO.refl _)
    | (with_reducible exact LeO.none _)
    | (with_reducible refine LeO.ite ?_ ?_)
    | (with_reducible refine LeO.bind ?_ (fun _ => ?_))
    | exact ih0 _ _ _ _
    | exact q3q.mono _ _ _ _ _
    | exact LeO.none _
    | refine LeO.ite ?_ ?_
    | refine LeO.bind ?_ (fun _ => ?_)
theorem q6q.mono : ∀ a0 a1 a2 a3 k, LeO (q6q.f k a0 a1 a2 a3) (q6q.f (k + 1) a0 a1 a2 a3) := by
 intro a0 a1 a2 a3 k
 have ih0 := q6q.mono_l k
 unfold q6q.f
 repeat' first
  | (with_reducible exact ih0 _ _ _ _)
  | (with_reducible exact q3q.mono _ _ _ _ _)
  | (with_reducible exact LeO.refl _)
  | (with_reducible exact LeO.none _)
  | (with_reducible refine LeO.ite ?_ ?_)
  | (with_reducible refine LeO.bind ?_ (fun _ => ?_))
  | exact ih0 _ _ _ _
  | exact q3q.mono _ _ _ _ _
  | exact LeO.none _
  | refine LeO.ite ?_ ?_
  | refine LeO.bind ?_ (fun _ => ?_)
set_option maxHeartbeats 8000000 in
set_option maxRecDepth 100000 in
theorem q6q.calls (k : Nat) (P0_ : Nat → Prop) (u9000_ : Value) (l0 : List (S79)) (a1 : Int) (a2 : Int) (a3 : Int)  (r : List (S79)) (w0 w : World) (hB : Below w0.heap.size w0 w) (ho0 : Kd.R k79 79 w w0.heap.size P0_ u9000_ l0) (h : q6q.f k l0 a1 a2 a3 = some r) :
 Calls Try.prog 60 #[u9000_, .int .i64 a1, .int .i64 a2, .int .i64 a3, .func (.func 33) #[] #[]] w fun e w' => e = .returned (.tuple #[]) ∧ Kd.R k79 79 w' w0.heap.size (fun k_ => (P0_ k_ ∨ w.heap.size ≤ k_)) u9000_ r ∧ Below w0.heap.size w0 w' ∧ Kept w w' (fun k_ => P0_ k_) := by
 have HO0 := aK (show Kd.R k79 79 w w0.heap.size (fun k_ => (P0_ k_ ∨ w.heap.size ≤ k_)) u9000_ l0 from Kd.R_mono ho0 (fun k_ hk => (.inl hk)))
 have HK := aK (Kept.refl w (fun k_ => P0_ k_))
 have HW0 := Aside0.mk hB.size
 have HB := Aside0.mk hB; clear hB
 have H : (q6q.l0 k l0 a2 (wrap64 (a2 - a1)) (wrap64 (a3 - a2))) = some r := h
 clear h
 have H' := Aside0.mk H
 clear H
 go_enter Try.func60, Try.ntmps60
 go_wp2
 go_loopg [10, 11] k (fun kq v10 v11 w' => ∃ (x0_1 : List (S79)) (x10_1 : Int) (x11_1 : Int), v10 = .int .i64 x10_1 ∧ v11 = .int .i64 x11_1 ∧ Aside0 (q6q.l0 kq x0_1 a2 x10_1 x11_1 = some r) ∧ Aside0 (kq ≤ k) ∧ Aside0 (Kd.R k79 79 w' w0.heap.size (fun k_ => (P0_ k_ ∨ w.heap.size ≤ k_)) u9000_ x0_1) ∧ Aside0 (Kept w w' (fun k_ => P0_ k_)) ∧ Aside0 (Below w0.heap.size w0 w'))
 case atStart => exact ⟨(l0), (wrap64 (a2 - a1)), (wrap64 (a3 - a2)), ac, ac, H', ⟨Nat.le_refl _⟩, ⟨gR HO0⟩, ⟨gP HK⟩, ⟨gB HB⟩⟩
 case round =>
  clear H'
  obtain ⟨x0_1, x10_1, x11_1, rfl, rfl, HA, HK1, HO_0, HK, HB⟩ := hrel
  cases gk with
  | zero => exact absurd HA.out (by simp [q6q.l0])
  | succ k1 =>
   have H := HA.out
   clear HA
   simp only [q6q.l0] at H
   by_cases c6 : x10_1 = x11_1
   · rw [if_pos c6] at H
     have c6b0 : (x10_1 == x11_1) = true := beq_iff_eq.mpr c6
     have c6b1 : (x10_1 != x11_1) = false := bne_eq_false_iff_eq.mpr c6
     clear c6
     replace H := Option.bind_eq_some_iff.mp H
     obtain ⟨t233, A70, H⟩ := H
     replace H : (some t233) = some r := H
     have A7 := Aside0.mk A70; clear A70
     obtain rfl := Option.some.inj H
     obtain ⟨Ao8, co8, eo8⟩ := Kd.R_slice HO_0.out
     subst eo8
     go_wp2_with (first | ((with_reducible refine gate_callee (f := 61) rfl ?_); refine goesL_ (some 57) rfl rfl Try.func61 (by kernel_rfl) rfl #[.slice Ao8 x0_1.length co8, .int .i64 (wrap64 (a2 - x10_1)), .int .i64 a2, .int .i64 x10_1, .func (.func 33) #[] #[]] rfl am ?_; (with_reducible refine (q3q.calls k1 (fun k_ => some k_ = (.slice Ao8 x0_1.length co8 : Value).ownBlock) (.slice Ao8 x0_1.length co8) x0_1 (wrap64 (a2 - x10_1)) a2 x10_1  t233 w0 _ ?side1 ?side2 A7.out).mono ?_); (case side1 => exact gB HB); (case side2 => exact Kd.R_tight rfl HO_0.out); rintro e w9 ⟨rfl, hy_, hb, hkp⟩; refine ⟨_, rfl, ?_⟩; replace HK := aK (Kept.then_ (S := (fun k_ => P0_ k_)) (gP HK) hkp (fun k_ hs_ => (fun e_ => (HO_0.out.1 k_ e_.symm)) hs_)); replace HO_0 := aK (Kd.R_reok rfl hy_ (fun k_ e_ => HO_0.out.1 k_ e_)); replace HB := aK (hb); (try clear hb); (try clear hkp); (try clear hy_)))
     first | go_end0 | ((try simp only [Exit.inBlock, Exit.then]); refine bodyPost_ret (results_none rfl _ _ _) rfl ?_)
     exact ⟨by first | rfl | (simp [errW_none, errW_some] <;> rfl) | (simp [*, errW_none, errW_some] <;> rfl), gR HO_0, gB HB, gP HK⟩
   · rw [if_neg c6] at H
     have c6b0 : (x10_1 == x11_1) = false := beq_eq_false_iff_ne.mpr c6
     have c6b1 : (x10_1 != x11_1) = true := bne_iff_ne.mpr c6
     by_cases c10 : x10_1 > x11_1
     · rw [if_pos c10] at H
       have c10b0 : decide (x11_1 < x10_1) = true := decide_eq_true c10
       clear c10
       replace H := Option.bind_eq_some_iff.mp H
       obtain ⟨t234, A110, H⟩ := H
       replace H : (q6q.l0 k1 t234 a2 (wrap64 (x10_1 - x11_1)) x11_1) = some r := H
       have A11 := Aside0.mk A110; clear A110
       have H' := Aside0.mk H
       clear H
       obtain ⟨Ao12, co12, eo12⟩ := Kd.R_slice HO_0.out
       subst eo12
       go_wp2_with (first | ((with_reducible refine gate_callee (f := 61) rfl ?_); refine goesL_ (some 31) rfl rfl Try.func61 (by kernel_rfl) rfl #[.slice Ao12 x0_1.length co12, .int .i64 (wrap64 (a2 - x10_1)), .int .i64 a2, .int .i64 x11_1, .func (.func 33) #[] #[]] rfl am ?_; (with_reducible refine (q3q.calls k1 (fun k_ => some k_ = (.slice Ao12 x0_1.length co12 : Value).ownBlock) (.slice Ao12 x0_1.length co12) x0_1 (wrap64 (a2 - x10_1)) a2 x11_1  t234 w0 _ ?side1 ?side2 A11.out).mono ?_); (case side1 => exact gB HB); (case side2 => exact Kd.R_tight rfl HO_0.out); rintro e w13 ⟨rfl, hy_, hb, hkp⟩; refine ⟨_, rfl, ?_⟩; replace HK := aK (Kept.then_ (S := (fun k_ => P0_ k_)) (gP HK) hkp (fun k_ hs_ => (fun e_ => (HO_0.out.1 k_ e_.symm)) hs_)); replace HO_0 := aK (Kd.R_reok rfl hy_ (fun k_ e_ => HO_0.out.1 k_ e_)); replace HB := aK (hb); (try clear hb); (try clear hkp); (try clear hy_)))
       go_roundg k1
       case measure => have := HK1.out; omega
       case rel => exact ⟨(t234), (wrap64 (x10_1 - x11_1)), (x11_1), ac, ac, H', ⟨by have := HK1.out; omega⟩, ⟨gR HO_0⟩, ⟨gP HK⟩, ⟨gB HB⟩⟩
     · rw [if_neg c10] at H
       have c10b0 : decide (x11_1 < x10_1) = false := decide_eq_false c10
       clear c10
       replace H := Option.bind_eq_some_iff.mp H
       obtain ⟨t235, A140, H⟩ := H
       replace H : (q6q.l0 k1 t235 a2 x10_1 (wrap64 (x11_1 - x10_1))) = some r := H
       have A14 := Aside0.mk A140; clear A140
       have H' := Aside0.mk H
       clear H
       obtain ⟨Ao15, co15, eo15⟩ := Kd.R_slice HO_0.out
       subst eo15
       go_wp2_with (first | ((with_reducible refine gate_callee (f := 61) rfl ?_); refine goesL_ (some 46) rfl rfl Try.func61 (by kernel_rfl) rfl #[.slice Ao15 x0_1.length co15, .int .i64 (wrap64 (a2 - x10_1)), .int .i64 (wrap64 ((wrap64 (a2 + x11_1)) - x10_1)), .int .i64 x10_1, .func (.func 33) #[] #[]] rfl am ?_; (with_reducible refine (q3q.calls k1 (fun k_ => some k_ = (.slice Ao15 x0_1.length co15 : Value).ownBlock) (.slice Ao15 x0_1.length co15) x0_1 (wrap64 (a2 - x10_1)) (wrap64 ((wrap64 (a2 + x11_1)) - x10_1)) x10_1  t235 w0 _ ?side1 ?side2 A14.out).mono ?_); (case side1 => exact gB HB); (case side2 => exact Kd.R_tight rfl HO_0.out); rintro e w16 ⟨rfl, hy_, hb, hkp⟩; refine ⟨_, rfl, ?_⟩; replace HK := aK (Kept.then_ (S := (fun k_ => P0_ k_)) (gP HK) hkp (fun k_ hs_ => (fun e_ => (HO_0.out.1 k_ e_.symm)) hs_)); replace HO_0 := aK (Kd.R_reok rfl hy_ (fun k_ e_ => HO_0.out.1 k_ e_)); replace HB := aK (hb); (try clear hb); (try clear hkp); (try clear hy_)))
       go_roundg k1
       case measure => have := HK1.out; omega
       case rel => exact ⟨(t235), (x10_1), (wrap64 (x11_1 - x10_1)), ac, ac, H', ⟨by have := HK1.out; omega⟩, ⟨gR HO_0⟩, ⟨gP HK⟩, ⟨gB HB⟩⟩
end Go.Proofs.Ytlbhjkbjokiioaa.X
