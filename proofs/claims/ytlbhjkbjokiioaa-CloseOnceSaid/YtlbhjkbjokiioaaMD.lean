-- a shortened text: what this claim does not name is left out (wip/xprint/prune.py of this repo)
import Derived.Test.YtlbhjkbjokiioaaPBigD
import Derived.Test.YtlbhjkbjokiioaaMDS
namespace Go.Proofs.Ytlbhjkbjokiioaa.X
open Go.RowKit Go.Proofs.YtlbhjkbjokiioaaW.PrintWords Go.Proofs.YtlbhjkbjokiioaaW.PrintLast Go.Proofs.YtlbhjkbjokiioaaW.PrintMore Go.Proofs.Ytlbhjkbjokiioaa.Big Go.Proofs.Ytlbhjkbjokiioaa.MDS
set_option linter.unusedVariables false
set_option linter.unusedSimpArgs false
def in64 (x : Int) : Prop := -9223372036854775808 ≤ x ∧ x ≤ 9223372036854775807
instance (x : Int) : Decidable (in64 x) := by unfold in64; infer_instance
def lombardref01_MulDiv.f (a0 : Int) (a1 : Int) (a2 : Int) (a3 : Int) : Option (Int × Int) := if in64 a0 ∧ in64 a1 ∧ in64 a2 then some (mulDivS a0 a1 a2 a3) else none
set_option maxHeartbeats 8000000 in
set_option maxRecDepth 100000 in
theorem lombardref01_MulDiv.calls (a0 : Int) (a1 : Int) (a2 : Int) (a3 : Int) (r1 : Int) (r2 : Int) (w : World) (h : lombardref01_MulDiv.f a0 a1 a2 a3 = some (r1, r2)) :
    Calls Try.prog 21 #[.int .i64 a0, .int .i64 a1, .int .i64 a2, .int .i64 a3] w fun e w' => e = .returned (.tuple #[.int .i64 r1, .int .i64 r2]) ∧ Below w.heap.size w w' := by
  have HB := Aside0.mk (Below.refl w.heap.size w)
  obtain ⟨i0, i1, i2, hs⟩ : in64 a0 ∧ in64 a1 ∧ in64 a2 ∧ mulDivS a0 a1 a2 a3 = (r1, r2) := by
    unfold lombardref01_MulDiv.f at h
    split at h
    · rename_i g; exact ⟨g.1, g.2.1, g.2.2, Option.some.inj h⟩
    · cases h
  clear h
  unfold in64 at i0 i1 i2
  by_cases c0 : a2 = 0 ∨ a3 < 1 ∨ 4 < a3
  · have hz : mulDivS a0 a1 a2 a3 = (0, 1) := by unfold mulDivS; rw [if_pos c0]
    rw [hz] at hs
    obtain ⟨rfl, rfl⟩ := Prod.mk.inj hs
    clear hs hz
    by_cases b0 : a2 = 0
    · have f0 : (a2 == 0) = true := beq_iff_eq.mpr b0
      clear b0 c0
      go_enter Try.func21, Try.ntmps21
      go_wp2
      go_ret2
      exact ⟨rfl, HB.out⟩
    · have f0 : (a2 == 0) = false := beq_eq_false_iff_ne.mpr b0
      by_cases b1 : a3 < 1
      · have f1 : decide (a3 < 1) = true := decide_eq_true b1
        clear b0 b1 c0
        go_enter Try.func21, Try.ntmps21
        go_wp2
        go_ret2
        exact ⟨rfl, HB.out⟩
      · have f1 : decide (a3 < 1) = false := decide_eq_false b1
        have f2 : decide (4 < a3) = true := decide_eq_true (by omega)
        clear b0 b1 c0
        go_enter Try.func21, Try.ntmps21
        go_wp2
        go_ret2
        exact ⟨rfl, HB.out⟩
  · have f0 : (a2 == 0) = false := beq_eq_false_iff_ne.mpr (by omega)
    have f1 : decide (a3 < 1) = false := decide_eq_false (by omega)
    have f2 : decide (4 < a3) = false := decide_eq_false (by omega)
    have nz : a2 ≠ 0 := by omega
    have h3 : a3 = 1 ∨ a3 = 2 ∨ a3 = 3 ∨ a3 = 4 := by omega
    have hs2 : signOf (minusOf a0 a1 a2) ((a0.natAbs : Int) * a1.natAbs / (a2.natAbs : Int) + if upOf (minusOf a0 a1 a2) ((a0.natAbs : Int) * a1.natAbs / (a2.natAbs : Int)) ((a0.natAbs : Int) * a1.natAbs % (a2.natAbs : Int)) (a2.natAbs : Int) a3 = true then 1 else 0) = (r1, r2) := by
      unfold mulDivS at hs; rw [if_neg c0] at hs; exact hs
    clear hs c0
    have H3 := Aside0.mk h3
    have NZ := Aside0.mk nz
    have HS := Aside0.mk hs2
    clear h3 nz hs2
    obtain ⟨t249, e249, b249, l249⟩ := PBig.size_ev i0.1 i0.2
    obtain ⟨t252, e252, b252, l252⟩ := PBig.size_ev i1.1 i1.2
    obtain ⟨t258, e258, b258, l258⟩ := PBig.size_ev i2.1 i2.2
    obtain ⟨t255, e255, b255, l255⟩ := PBig.mul_ev b249 b252 (by omega) (by omega)
    obtain ⟨t261, t262, e261, b261, b262, l261⟩ := PBig.div_ev b255 b258 (by have := NZ.out; omega) (by omega) (by omega)
    have d1 : (a2.natAbs : Int) ≤ 9223372036854775808 := by omega
    have dp : (0 : Int) < a2.natAbs := by have := NZ.out; omega
    have n1 : (a0.natAbs : Int) * a1.natAbs ≤ 85070591730234615865843651857942052864 := by
      have h1 : (a0.natAbs : Int) * a1.natAbs ≤ a0.natAbs * 9223372036854775808 := Int.mul_le_mul_of_nonneg_left (by omega) (by omega)
      omega
    have n0 : 0 ≤ (a0.natAbs : Int) * a1.natAbs := Int.mul_nonneg (by omega) (by omega)
    have r0 := Int.emod_nonneg ((a0.natAbs : Int) * a1.natAbs) (show (a2.natAbs : Int) ≠ 0 by omega)
    have r1_ := Int.emod_lt_of_pos ((a0.natAbs : Int) * a1.natAbs) dp
    have q0 : 0 ≤ (a0.natAbs : Int) * a1.natAbs / (a2.natAbs : Int) := Int.ediv_nonneg n0 (by omega)
    have q1 : (a0.natAbs : Int) * a1.natAbs / (a2.natAbs : Int) ≤ 85070591730234615865843651857942052864 := Int.le_trans (Int.ediv_le_self _ n0) n1
    generalize (a0.natAbs : Int) * a1.natAbs = n at *
    generalize (a2.natAbs : Int) = d at *
    generalize n / d = q at *
    generalize n % d = r at *
    have l262 : t262.length ≤ 4 := b262.len_le (by have hp4 : P 4 = 18446744073709551616 := (by decide); omega)
    obtain ⟨t267, e267, b267, l267⟩ := PBig.add_ev b262 b262 (by omega) (by omega)
    obtain ⟨t273, e273, c273, z273⟩ := PBig.compare_ev b267 b258 (by omega) (by omega)
    obtain ⟨t275, e275, b275, l275⟩ := PBig.of_ev (n := 1) (by omega) (by omega)
    obtain ⟨t278, e278, b278, l278⟩ := PBig.add_ev b261 b275 (by omega) (by omega)
    have l8 : ∀ {l : List Int} {x : Int}, IsBig l x → x ≤ 85070591730234615865843651857942052865 → l.length ≤ 8 := fun hb hx => hb.len_le (by have hp8 : P 8 = 340282366920938463463374607431768211456 := (by decide); omega)
    have e8 := PBig.halves_ev b261 (l8 b261 (by omega))
    have e9 := PBig.halves_ev b278 (l8 b278 (by omega))
    obtain ⟨K, k249, k252, k258, k255, k261, k267, k273, k275, k278, k8, k9⟩ : ∃ K, q23q.f K a0 = some t249 ∧ q23q.f K a1 = some t252 ∧ q23q.f K a2 = some t258 ∧ q4q.f K t249 t252 = some t255 ∧ q9q.f K t255 t258 = some (t261, t262) ∧ q5q.f K t262 t262 = some t267 ∧ q11q.f K t267 t258 = some t273 ∧ q13q.f K 1 = some t275 ∧ q5q.f K t261 t275 = some t278 ∧ q19q.f K t261 = some (q / 18446744073709551616, q % 18446744073709551616, true) ∧ q19q.f K t278 = some ((q + 1) / 18446744073709551616, (q + 1) % 18446744073709551616, true) := by
      obtain ⟨K1, h1⟩ := e249; obtain ⟨K2, h2⟩ := e252; obtain ⟨K3, h3⟩ := e258; obtain ⟨K4, h4⟩ := e255; obtain ⟨K5, h5⟩ := e261; obtain ⟨K6, h6⟩ := e267
      obtain ⟨K7, h7⟩ := e273; obtain ⟨K8, h8⟩ := e275; obtain ⟨K9, h9⟩ := e278; obtain ⟨K10, h10⟩ := e8; obtain ⟨K11, h11⟩ := e9
      exact ⟨K1 + K2 + K3 + K4 + K5 + K6 + K7 + K8 + K9 + K10 + K11, h1 _ (by omega), h2 _ (by omega), h3 _ (by omega), h4 _ (by omega), h5 _ (by omega), h6 _ (by omega), h7 _ (by omega), h8 _ (by omega), h9 _ (by omega), h10 _ (by omega), h11 _ (by omega)⟩
    have A9 := Aside0.mk k249; have A10 := Aside0.mk k252; have A11 := Aside0.mk k255; have A12 := Aside0.mk k258; have A13 := Aside0.mk k261
    have A26 := Aside0.mk k267; have A27 := Aside0.mk k258; have A28 := Aside0.mk k273; have A259 := Aside0.mk k275; have A260 := Aside0.mk k278; have A8 := Aside0.mk k8; have A99 := Aside0.mk k9
    have B261 := Aside0.mk b261; have B262 := Aside0.mk b262; have C273 := Aside0.mk c273; have Z273 := Aside0.mk z273
    clear k249 k252 k258 k255 k261 k267 k273 k275 k278 k8 k9 e249 e252 e258 e255 e261 e267 e273 e275 e278 e8 e9 b249 b252 b258 b255 b261 b262 b267 b275 b278 c273 z273 l249 l252 l258 l255 l261 l262 l267 l275 l278 l8
    have I0 := Aside0.mk i0; have I1 := Aside0.mk i1; have I2 := Aside0.mk i2
    clear i0 i1 i2 n1 n0
    have Q0 := Aside0.mk q0; have Q1 := Aside0.mk q1; have R0 := Aside0.mk r0; have R1 := Aside0.mk r1_; have D1 := Aside0.mk d1; have DP := Aside0.mk dp
    clear q0 q1 r0 r1_ d1 dp
    go_enter Try.func21, Try.ntmps21
    go_upto_region 3 with (fail)
    go_cut [10] (fun v10 wc => v10 = .bool (minusOf a0 a1 a2) ∧ Aside0 (Below w.heap.size w wc))
    case first =>
      cases y0 : decide (a0 < 0) <;> cases y1 : decide (a1 < 0) <;> cases y2 : decide (a2 < 0) <;>
        (go_wp2
         go_meet
         case rel => exact ⟨by simp [minusOf, y0, y1, y2], HB⟩)
    case rest =>
      clear HB
      obtain ⟨rfl, HB⟩ := hcut
      generalize hm : minusOf a0 a1 a2 = m at *
      clear hm
      go_upto_if 50 with (first | ((with_reducible refine gate_callee (f := 42) rfl ?_); refine goesL_ (some 39) rfl rfl Try.func42 (by kernel_rfl) rfl #[.int .i64 a0] rfl (by (try simp only [List.map_toArray, List.map_cons, List.map_nil]); first | done | rfl | (simp only [List.length_drop, List.length_take]; rfl)) ?_; (with_reducible refine (q23q.calls K a0 t249 _ A9.out).mono ?_); rintro e w15 ⟨v250, rfl, ho0, hb⟩; refine ⟨_, rfl, ?_⟩; have n0_ := Aside0.mk (Kd.R_lower ho0 (below_size (by repeat (first | (with_reducible first | exact HB.out | apply below_alloc | apply q14q | apply below_drew1) | exact HB.out)))); have n1_ := Aside0.mk (below_step (by repeat (first | (with_reducible first | exact HB.out | apply below_alloc | apply q14q | apply below_drew1) | exact HB.out)) hb); clear HB; have HO251 := n0_; have HB := n1_; clear n0_ n1_; (try clear hb); (try clear hb2); (try clear hk); (try clear hi); (try clear ho0)) | ((with_reducible refine gate_callee (f := 42) rfl ?_); refine goesL_ (some 41) rfl rfl Try.func42 (by kernel_rfl) rfl #[.int .i64 a1] rfl (by (try simp only [List.map_toArray, List.map_cons, List.map_nil]); first | done | rfl | (simp only [List.length_drop, List.length_take]; rfl)) ?_; (with_reducible refine (q23q.calls K a1 t252 _ A10.out).mono ?_); rintro e w16 ⟨v253, rfl, ho0, hb⟩; refine ⟨_, rfl, ?_⟩; have n0_ := Aside0.mk (Kd.R_elder' (by (with_reducible repeat (first | apply Kd.R_alloc | apply Kd.R_drewN | apply Kd.R_drew)); exact HO251.out) (Kd.R_base ho0) hb); have n1_ := Aside0.mk (Kd.R_lower (Kd.R_new' ho0 (Kd.R_lt (by (with_reducible repeat (first | apply Kd.R_alloc | apply Kd.R_drewN | apply Kd.R_drew)); exact HO251.out))) (below_size (by repeat (first | (with_reducible first | exact HB.out | apply below_alloc | apply q14q | apply below_drew1) | exact HB.out)))); have n2_ := Aside0.mk (below_step (by repeat (first | (with_reducible first | exact HB.out | apply below_alloc | apply q14q | apply below_drew1) | exact HB.out)) hb); clear HO251; clear HB; have HO251 := n0_; have HO254 := n1_; have HB := n2_; clear n0_ n1_ n2_; (try clear hb); (try clear hb2); (try clear hk); (try clear hi); (try clear ho0); obtain ⟨Ao17, co17, eo17⟩ := Kd.R_slice HO251.out; subst eo17; obtain ⟨Ao18, co18, eo18⟩ := Kd.R_slice HO254.out; subst eo18) | ((with_reducible refine gate_callee (f := 41) rfl ?_); refine goesL_ (some 42) rfl rfl Try.func41 (by kernel_rfl) rfl #[.slice Ao17 t249.length co17, .slice Ao18 t252.length co18] rfl (by (try simp only [List.map_toArray, List.map_cons, List.map_nil]); first | done | rfl | (simp only [List.length_drop, List.length_take]; rfl)) ?_; (with_reducible refine (q4q.calls K _ _ t249 _ _ t252 t255 _ ?side1 ?side2 ?side3 ?side4 A11.out).mono ?_); (case side1 => repeat (first | exact (Kd.R_reads' HO251.out).2.2 | (with_reducible refine Kd.C_alloc ?_ _) | (with_reducible refine Kd.C_drewN ?_ _) | (with_reducible refine Kd.C_drew ?_))); (case side2 => exact (Kd.R_reads' HO251.out).2.1); (case side3 => repeat (first | exact (Kd.R_reads' HO254.out).2.2 | (with_reducible refine Kd.C_alloc ?_ _) | (with_reducible refine Kd.C_drewN ?_ _) | (with_reducible refine Kd.C_drew ?_))); (case side4 => exact (Kd.R_reads' HO254.out).2.1); rintro e w19 ⟨v256, rfl, ho0, hb⟩; refine ⟨_, rfl, ?_⟩; have n0_ := Aside0.mk (Kd.R_elder' (by (with_reducible repeat (first | apply Kd.R_alloc | apply Kd.R_drewN | apply Kd.R_drew)); exact HO251.out) (Kd.R_base ho0) hb); have n1_ := Aside0.mk (Kd.R_elder' (by (with_reducible repeat (first | apply Kd.R_alloc | apply Kd.R_drewN | apply Kd.R_drew)); exact HO254.out) (Kd.R_base ho0) hb); have n2_ := Aside0.mk (Kd.R_lower (Kd.R_new' (Kd.R_new' ho0 (Kd.R_lt (by (with_reducible repeat (first | apply Kd.R_alloc | apply Kd.R_drewN | apply Kd.R_drew)); exact HO251.out))) (Kd.R_lt (by (with_reducible repeat (first | apply Kd.R_alloc | apply Kd.R_drewN | apply Kd.R_drew)); exact HO254.out))) (below_size (by repeat (first | (with_reducible first | exact HB.out | apply below_alloc | apply q14q | apply below_drew1) | exact HB.out)))); have n3_ := Aside0.mk (below_step (by repeat (first | (with_reducible first | exact HB.out | apply below_alloc | apply q14q | apply below_drew1) | exact HB.out)) hb); clear HO251; clear HO254; clear HB; have HO251 := n0_; have HO254 := n1_; have HO257 := n2_; have HB := n3_; clear n0_ n1_ n2_ n3_; (try clear hb); (try clear hb2); (try clear hk); (try clear hi); (try clear ho0)) | ((with_reducible refine gate_callee (f := 42) rfl ?_); refine goesL_ (some 44) rfl rfl Try.func42 (by kernel_rfl) rfl #[.int .i64 a2] rfl (by (try simp only [List.map_toArray, List.map_cons, List.map_nil]); first | done | rfl | (simp only [List.length_drop, List.length_take]; rfl)) ?_; (with_reducible refine (q23q.calls K a2 t258 _ A12.out).mono ?_); rintro e w20 ⟨v259, rfl, ho0, hb⟩; refine ⟨_, rfl, ?_⟩; have n0_ := Aside0.mk (Kd.R_elder' (by (with_reducible repeat (first | apply Kd.R_alloc | apply Kd.R_drewN | apply Kd.R_drew)); exact HO251.out) (Kd.R_base ho0) hb); have n1_ := Aside0.mk (Kd.R_elder' (by (with_reducible repeat (first | apply Kd.R_alloc | apply Kd.R_drewN | apply Kd.R_drew)); exact HO254.out) (Kd.R_base ho0) hb); have n2_ := Aside0.mk (Kd.R_elder' (by (with_reducible repeat (first | apply Kd.R_alloc | apply Kd.R_drewN | apply Kd.R_drew)); exact HO257.out) (Kd.R_base ho0) hb); have n3_ := Aside0.mk (Kd.R_lower (Kd.R_new' (Kd.R_new' (Kd.R_new' ho0 (Kd.R_lt (by (with_reducible repeat (first | apply Kd.R_alloc | apply Kd.R_drewN | apply Kd.R_drew)); exact HO251.out))) (Kd.R_lt (by (with_reducible repeat (first | apply Kd.R_alloc | apply Kd.R_drewN | apply Kd.R_drew)); exact HO254.out))) (Kd.R_lt (by (with_reducible repeat (first | apply Kd.R_alloc | apply Kd.R_drewN | apply Kd.R_drew)); exact HO257.out))) (below_size (by repeat (first | (with_reducible first | exact HB.out | apply below_alloc | apply q14q | apply below_drew1) | exact HB.out)))); have n4_ := Aside0.mk (below_step (by repeat (first | (with_reducible first | exact HB.out | apply below_alloc | apply q14q | apply below_drew1) | exact HB.out)) hb); clear HO251; clear HO254; clear HO257; clear HB; have HO251 := n0_; have HO254 := n1_; have HO257 := n2_; have HO260 := n3_; have HB := n4_; clear n0_ n1_ n2_ n3_ n4_; (try clear hb); (try clear hb2); (try clear hk); (try clear hi); (try clear ho0); obtain ⟨Ao21, co21, eo21⟩ := Kd.R_slice HO257.out; subst eo21; obtain ⟨Ao22, co22, eo22⟩ := Kd.R_slice HO260.out; subst eo22) | ((with_reducible refine gate_callee (f := 40) rfl ?_); refine goesL_ (some 45) rfl rfl Try.func40 (by kernel_rfl) rfl #[.slice Ao21 t255.length co21, .slice Ao22 t258.length co22] rfl (by (try simp only [List.map_toArray, List.map_cons, List.map_nil]); first | done | rfl | (simp only [List.length_drop, List.length_take]; rfl)) ?_; (with_reducible refine (q9q.calls K _ _ t255 _ _ t258 t261 t262 _ ?side1 ?side2 ?side3 ?side4 A13.out).mono ?_); (case side1 => repeat (first | exact (Kd.R_reads' HO257.out).2.2 | (with_reducible refine Kd.C_alloc ?_ _) | (with_reducible refine Kd.C_drewN ?_ _) | (with_reducible refine Kd.C_drew ?_))); (case side2 => exact (Kd.R_reads' HO257.out).2.1); (case side3 => repeat (first | exact (Kd.R_reads' HO260.out).2.2 | (with_reducible refine Kd.C_alloc ?_ _) | (with_reducible refine Kd.C_drewN ?_ _) | (with_reducible refine Kd.C_drew ?_))); (case side4 => exact (Kd.R_reads' HO260.out).2.1); rintro e w23 ⟨v263, v265, rfl, ho0, ho1, hb⟩; refine ⟨_, rfl, ?_⟩; have n0_ := Aside0.mk (Kd.R_mono (Kd.R_told (Kd.R_told (Kd.R_old (by (with_reducible repeat (first | apply Kd.R_alloc | apply Kd.R_drewN | apply Kd.R_drew)); exact HO251.out) hb) (Kd.R_base ho0)) (Kd.R_base ho1)) (fun _ h_ => h_.1)); have n1_ := Aside0.mk (Kd.R_mono (Kd.R_told (Kd.R_told (Kd.R_old (by (with_reducible repeat (first | apply Kd.R_alloc | apply Kd.R_drewN | apply Kd.R_drew)); exact HO254.out) hb) (Kd.R_base ho0)) (Kd.R_base ho1)) (fun _ h_ => h_.1)); have n2_ := Aside0.mk (Kd.R_mono (Kd.R_told (Kd.R_told (Kd.R_old (by (with_reducible repeat (first | apply Kd.R_alloc | apply Kd.R_drewN | apply Kd.R_drew)); exact HO257.out) hb) (Kd.R_base ho0)) (Kd.R_base ho1)) (fun _ h_ => h_.1)); have n3_ := Aside0.mk (Kd.R_mono (Kd.R_told (Kd.R_told (Kd.R_old (by (with_reducible repeat (first | apply Kd.R_alloc | apply Kd.R_drewN | apply Kd.R_drew)); exact HO260.out) hb) (Kd.R_base ho0)) (Kd.R_base ho1)) (fun _ h_ => h_.1)); have n4_ := Aside0.mk (Kd.R_lower (Kd.R_new' (Kd.R_new' (Kd.R_new' (Kd.R_new' ho0 (Kd.R_lt (by (with_reducible repeat (first | apply Kd.R_alloc | apply Kd.R_drewN | apply Kd.R_drew)); exact HO251.out))) (Kd.R_lt (by (with_reducible repeat (first | apply Kd.R_alloc | apply Kd.R_drewN | apply Kd.R_drew)); exact HO254.out))) (Kd.R_lt (by (with_reducible repeat (first | apply Kd.R_alloc | apply Kd.R_drewN | apply Kd.R_drew)); exact HO257.out))) (Kd.R_lt (by (with_reducible repeat (first | apply Kd.R_alloc | apply Kd.R_drewN | apply Kd.R_drew)); exact HO260.out))) (below_size (by repeat (first | (with_reducible first | exact HB.out | apply below_alloc | apply q14q | apply below_drew1) | exact HB.out)))); have n5_ := Aside0.mk (Kd.R_lower (Kd.R_new' (Kd.R_new' (Kd.R_new' (Kd.R_new' ho1 (Kd.R_lt (by (with_reducible repeat (first | apply Kd.R_alloc | apply Kd.R_drewN | apply Kd.R_drew)); exact HO251.out))) (Kd.R_lt (by (with_reducible repeat (first | apply Kd.R_alloc | apply Kd.R_drewN | apply Kd.R_drew)); exact HO254.out))) (Kd.R_lt (by (with_reducible repeat (first | apply Kd.R_alloc | apply Kd.R_drewN | apply Kd.R_drew)); exact HO257.out))) (Kd.R_lt (by (with_reducible repeat (first | apply Kd.R_alloc | apply Kd.R_drewN | apply Kd.R_drew)); exact HO260.out))) (below_size (by repeat (first | (with_reducible first | exact HB.out | apply below_alloc | apply q14q | apply below_drew1) | exact HB.out)))); have n6_ := Aside0.mk (below_step (by repeat (first | (with_reducible first | exact HB.out | apply below_alloc | apply q14q | apply below_drew1) | exact HB.out)) hb); clear HO251; clear HO254; clear HO257; clear HO260; clear HB; have HO251 := n0_; have HO254 := n1_; have HO257 := n2_; have HO260 := n3_; have HO264 := n4_; have HO266 := n5_; have HB := n6_; clear n0_ n1_ n2_ n3_ n4_ n5_ n6_; (try clear hb); (try clear hb2); (try clear hk); (try clear hi); (try clear ho0); (try clear ho1); obtain ⟨Ao24, co24, eo24⟩ := Kd.R_slice HO266.out; subst eo24))
      (try simp only [Act.put, List.setIfInBounds_toArray, List.set_cons_zero, List.set_cons_succ])
      go_cut [13] (fun v13 wc => v13 = .bool (upOf m q r d a3) ∧ Aside0 (Kd.R (Kd.int .u64) 93 wc w.heap.size (fun _ => True) v263 t261) ∧ Aside0 (Below w.heap.size w wc))
      case first =>
        by_cases c25 : 0 < t262.length
        · have hr : 0 < r := B262.out.pos_iff.1 c25
          have RP := Aside0.mk hr
          clear hr
          have c25b0 : decide (0 < (t262.length : Int)) = true := decide_eq_true (by omega)
          have c25b1 : decide (0 < t262.length) = true := decide_eq_true c25
          (first | rw [c25b1] | rw [c25b0] | skip)
          clear c25
          by_cases c29 : 0 < t261.length
          · have c29b0 : decide (0 < (t261.length : Int)) = true := decide_eq_true (by omega)
            have c29b1 : decide (0 < t261.length) = true := decide_eq_true c29
            clear c29
            go_upto_region 8 with (first | ((with_reducible refine gate_callee (f := 44) rfl ?_); refine goesL_ (some 53) rfl rfl Try.func44 (by kernel_rfl) rfl #[.slice Ao24 t262.length co24, .slice Ao24 t262.length co24] rfl (by (try simp only [List.map_toArray, List.map_cons, List.map_nil]); first | done | rfl | (simp only [List.length_drop, List.length_take]; rfl)) ?_; (with_reducible refine (q5q.calls K _ _ t262 _ _ t262 t267 _ ?side1 ?side2 ?side3 ?side4 A26.out).mono ?_); (case side1 => repeat (first | exact (Kd.R_reads' HO266.out).2.2 | (with_reducible refine Kd.C_alloc ?_ _) | (with_reducible refine Kd.C_drewN ?_ _) | (with_reducible refine Kd.C_drew ?_))); (case side2 => exact (Kd.R_reads' HO266.out).2.1); (case side3 => repeat (first | exact (Kd.R_reads' HO266.out).2.2 | (with_reducible refine Kd.C_alloc ?_ _) | (with_reducible refine Kd.C_drewN ?_ _) | (with_reducible refine Kd.C_drew ?_))); (case side4 => exact (Kd.R_reads' HO266.out).2.1); rintro e w33 ⟨v268, rfl, ho0, hb⟩; refine ⟨_, rfl, ?_⟩; have n0_ := Aside0.mk (Kd.R_elder' (by (with_reducible repeat (first | apply Kd.R_alloc | apply Kd.R_drewN | apply Kd.R_drew)); exact HO251.out) (Kd.R_base ho0) hb); have n1_ := Aside0.mk (Kd.R_elder' (by (with_reducible repeat (first | apply Kd.R_alloc | apply Kd.R_drewN | apply Kd.R_drew)); exact HO254.out) (Kd.R_base ho0) hb); have n2_ := Aside0.mk (Kd.R_elder' (by (with_reducible repeat (first | apply Kd.R_alloc | apply Kd.R_drewN | apply Kd.R_drew)); exact HO257.out) (Kd.R_base ho0) hb); have n3_ := Aside0.mk (Kd.R_elder' (by (with_reducible repeat (first | apply Kd.R_alloc | apply Kd.R_drewN | apply Kd.R_drew)); exact HO260.out) (Kd.R_base ho0) hb); have n4_ := Aside0.mk (Kd.R_elder' (by (with_reducible repeat (first | apply Kd.R_alloc | apply Kd.R_drewN | apply Kd.R_drew)); exact HO264.out) (Kd.R_base ho0) hb); have n5_ := Aside0.mk (Kd.R_elder' (by (with_reducible repeat (first | apply Kd.R_alloc | apply Kd.R_drewN | apply Kd.R_drew)); exact HO266.out) (Kd.R_base ho0) hb); have n6_ := Aside0.mk (Kd.R_lower (Kd.R_new' (Kd.R_new' (Kd.R_new' (Kd.R_new' (Kd.R_new' (Kd.R_new' ho0 (Kd.R_lt (by (with_reducible repeat (first | apply Kd.R_alloc | apply Kd.R_drewN | apply Kd.R_drew)); exact HO251.out))) (Kd.R_lt (by (with_reducible repeat (first | apply Kd.R_alloc | apply Kd.R_drewN | apply Kd.R_drew)); exact HO254.out))) (Kd.R_lt (by (with_reducible repeat (first | apply Kd.R_alloc | apply Kd.R_drewN | apply Kd.R_drew)); exact HO257.out))) (Kd.R_lt (by (with_reducible repeat (first | apply Kd.R_alloc | apply Kd.R_drewN | apply Kd.R_drew)); exact HO260.out))) (Kd.R_lt (by (with_reducible repeat (first | apply Kd.R_alloc | apply Kd.R_drewN | apply Kd.R_drew)); exact HO264.out))) (Kd.R_lt (by (with_reducible repeat (first | apply Kd.R_alloc | apply Kd.R_drewN | apply Kd.R_drew)); exact HO266.out))) (below_size (by repeat (first | (with_reducible first | exact HB.out | apply below_alloc | apply q14q | apply below_drew1) | exact HB.out)))); have n7_ := Aside0.mk (below_step (by repeat (first | (with_reducible first | exact HB.out | apply below_alloc | apply q14q | apply below_drew1) | exact HB.out)) hb); clear HO251; clear HO254; clear HO257; clear HO260; clear HO264; clear HO266; clear HB; have HO251 := n0_; have HO254 := n1_; have HO257 := n2_; have HO260 := n3_; have HO264 := n4_; have HO266 := n5_; have HO269 := n6_; have HB := n7_; clear n0_ n1_ n2_ n3_ n4_ n5_ n6_ n7_; (try clear hb); (try clear hb2); (try clear hk); (try clear hi); (try clear ho0)) | ((with_reducible refine gate_callee (f := 42) rfl ?_); refine goesL_ (some 55) rfl rfl Try.func42 (by kernel_rfl) rfl #[.int .i64 a2] rfl (by (try simp only [List.map_toArray, List.map_cons, List.map_nil]); first | done | rfl | (simp only [List.length_drop, List.length_take]; rfl)) ?_; (with_reducible refine (q23q.calls K a2 t258 _ A27.out).mono ?_); rintro e w34 ⟨v271, rfl, ho0, hb⟩; refine ⟨_, rfl, ?_⟩; have n0_ := Aside0.mk (Kd.R_elder' (by (with_reducible repeat (first | apply Kd.R_alloc | apply Kd.R_drewN | apply Kd.R_drew)); exact HO251.out) (Kd.R_base ho0) hb); have n1_ := Aside0.mk (Kd.R_elder' (by (with_reducible repeat (first | apply Kd.R_alloc | apply Kd.R_drewN | apply Kd.R_drew)); exact HO254.out) (Kd.R_base ho0) hb); have n2_ := Aside0.mk (Kd.R_elder' (by (with_reducible repeat (first | apply Kd.R_alloc | apply Kd.R_drewN | apply Kd.R_drew)); exact HO257.out) (Kd.R_base ho0) hb); have n3_ := Aside0.mk (Kd.R_elder' (by (with_reducible repeat (first | apply Kd.R_alloc | apply Kd.R_drewN | apply Kd.R_drew)); exact HO260.out) (Kd.R_base ho0) hb); have n4_ := Aside0.mk (Kd.R_elder' (by (with_reducible repeat (first | apply Kd.R_alloc | apply Kd.R_drewN | apply Kd.R_drew)); exact HO264.out) (Kd.R_base ho0) hb); have n5_ := Aside0.mk (Kd.R_elder' (by (with_reducible repeat (first | apply Kd.R_alloc | apply Kd.R_drewN | apply Kd.R_drew)); exact HO266.out) (Kd.R_base ho0) hb); have n6_ := Aside0.mk (Kd.R_elder' (by (with_reducible repeat (first | apply Kd.R_alloc | apply Kd.R_drewN | apply Kd.R_drew)); exact HO269.out) (Kd.R_base ho0) hb); have n7_ := Aside0.mk (Kd.R_lower (Kd.R_new' (Kd.R_new' (Kd.R_new' (Kd.R_new' (Kd.R_new' (Kd.R_new' (Kd.R_new' ho0 (Kd.R_lt (by (with_reducible repeat (first | apply Kd.R_alloc | apply Kd.R_drewN | apply Kd.R_drew)); exact HO251.out))) (Kd.R_lt (by (with_reducible repeat (first | apply Kd.R_alloc | apply Kd.R_drewN | apply Kd.R_drew)); exact HO254.out))) (Kd.R_lt (by (with_reducible repeat (first | apply Kd.R_alloc | apply Kd.R_drewN | apply Kd.R_drew)); exact HO257.out))) (Kd.R_lt (by (with_reducible repeat (first | apply Kd.R_alloc | apply Kd.R_drewN | apply Kd.R_drew)); exact HO260.out))) (Kd.R_lt (by (with_reducible repeat (first | apply Kd.R_alloc | apply Kd.R_drewN | apply Kd.R_drew)); exact HO264.out))) (Kd.R_lt (by (with_reducible repeat (first | apply Kd.R_alloc | apply Kd.R_drewN | apply Kd.R_drew)); exact HO266.out))) (Kd.R_lt (by (with_reducible repeat (first | apply Kd.R_alloc | apply Kd.R_drewN | apply Kd.R_drew)); exact HO269.out))) (below_size (by repeat (first | (with_reducible first | exact HB.out | apply below_alloc | apply q14q | apply below_drew1) | exact HB.out)))); have n8_ := Aside0.mk (below_step (by repeat (first | (with_reducible first | exact HB.out | apply below_alloc | apply q14q | apply below_drew1) | exact HB.out)) hb); clear HO251; clear HO254; clear HO257; clear HO260; clear HO264; clear HO266; clear HO269; clear HB; have HO251 := n0_; have HO254 := n1_; have HO257 := n2_; have HO260 := n3_; have HO264 := n4_; have HO266 := n5_; have HO269 := n6_; have HO272 := n7_; have HB := n8_; clear n0_ n1_ n2_ n3_ n4_ n5_ n6_ n7_ n8_; (try clear hb); (try clear hb2); (try clear hk); (try clear hi); (try clear ho0); obtain ⟨Ao35, co35, eo35⟩ := Kd.R_slice HO269.out; subst eo35; obtain ⟨Ao36, co36, eo36⟩ := Kd.R_slice HO272.out; subst eo36) | ((with_reducible refine gate_callee (f := 43) rfl ?_); refine goesL_ (some 56) rfl rfl Try.func43 (by kernel_rfl) rfl #[.slice Ao35 t267.length co35, .slice Ao36 t258.length co36] rfl (by (try simp only [List.map_toArray, List.map_cons, List.map_nil]); first | done | rfl | (simp only [List.length_drop, List.length_take]; rfl)) ?_; (with_reducible refine (q11q.calls K _ _ t267 _ _ t258 t273 _ ?side1 ?side2 ?side3 ?side4 A28.out).mono ?_); (case side1 => repeat (first | exact (Kd.R_reads' HO269.out).2.2 | (with_reducible refine Kd.C_alloc ?_ _) | (with_reducible refine Kd.C_drewN ?_ _) | (with_reducible refine Kd.C_drew ?_))); (case side2 => exact (Kd.R_reads' HO269.out).2.1); (case side3 => repeat (first | exact (Kd.R_reads' HO272.out).2.2 | (with_reducible refine Kd.C_alloc ?_ _) | (with_reducible refine Kd.C_drewN ?_ _) | (with_reducible refine Kd.C_drew ?_))); (case side4 => exact (Kd.R_reads' HO272.out).2.1); rintro e w' ⟨rfl, ⟨nd, rfl⟩⟩; refine ⟨_, rfl, ?_⟩; obtain ⟨Ao37, co37, eo37⟩ := Kd.R_slice HO264.out; subst eo37; have p274 : 0 ≤ (0 : Int) := (by omega); have q274 : 0 < (t261.length : Int) := of_decide_eq_true (by first | (with_reducible assumption) | assumption); obtain ⟨ad274, e274, hx274_0⟩ := Kd.at_int (Kd.R_reads' HO264.out).2.2 0 p274 q274; cases e274; have qi274 : (0 < t261.length) = True := eq_true (by omega); (try rw [show ((0 : Int)).toNat = 0 from rfl] at hx274_0); (try rw [Addr.add_zero'] at hx274_0); replace p274 := eq_true p274; replace q274 := eq_true q274))
            have od : rd t261 0 = t261.getD 0 0 := rfl
            have og := B261.out.1.get 0
            have ov := val_mod_two (l := t261)
            rw [B261.out.2.2] at ov
            have oq : Int.tmod (rd t261 0) 2 = q % 2 := by rw [od, Int.tmod_eq_emod_of_nonneg og.1, ov]
            have OQ := Aside0.mk oq
            clear od og ov oq
            have u3 : r ≠ 0 := by have := RP.out; omega
            have U3 := Aside0.mk u3
            clear u3
            rcases H3.out with rfl | rfl | rfl | rfl
            · cases m <;>
                (go_wp2
                 go_meet
                 case rel => exact ⟨by simp [upOf, U3.out], ⟨by (with_reducible repeat (first | apply Kd.R_alloc | apply Kd.R_drewN | apply Kd.R_drew)); exact Kd.R_mono HO264.out (fun _ hk => trivial)⟩, ⟨by repeat (first | (with_reducible first | exact HB.out | apply below_alloc | apply q14q | apply below_drew1) | exact HB.out)⟩⟩)
            · cases m <;>
                (go_wp2
                 go_meet
                 case rel => exact ⟨by simp [upOf, U3.out], ⟨by (with_reducible repeat (first | apply Kd.R_alloc | apply Kd.R_drewN | apply Kd.R_drew)); exact Kd.R_mono HO264.out (fun _ hk => trivial)⟩, ⟨by repeat (first | (with_reducible first | exact HB.out | apply below_alloc | apply q14q | apply below_drew1) | exact HB.out)⟩⟩)
            ·
              (go_wp2
               go_meet
               case rel => exact ⟨by simp [upOf, U3.out], ⟨by (with_reducible repeat (first | apply Kd.R_alloc | apply Kd.R_drewN | apply Kd.R_drew)); exact Kd.R_mono HO264.out (fun _ hk => trivial)⟩, ⟨by repeat (first | (with_reducible first | exact HB.out | apply below_alloc | apply q14q | apply below_drew1) | exact HB.out)⟩⟩)
            · by_cases g1 : 0 < t273
              · have s1 : d < 2 * r := by have h1 := C273.out; have h2 := Z273.out; omega
                have S1 := Aside0.mk s1
                have g1b : decide (0 < t273) = true := decide_eq_true g1
                clear s1 g1
                (go_wp2
                 go_meet
                 case rel => exact ⟨by simp [upOf, U3.out, S1.out], ⟨by (with_reducible repeat (first | apply Kd.R_alloc | apply Kd.R_drewN | apply Kd.R_drew)); exact Kd.R_mono HO264.out (fun _ hk => trivial)⟩, ⟨by repeat (first | (with_reducible first | exact HB.out | apply below_alloc | apply q14q | apply below_drew1) | exact HB.out)⟩⟩)
              · have s1 : ¬ d < 2 * r := by have h1 := C273.out; have h2 := Z273.out; omega
                have S1 := Aside0.mk s1
                have g1b : decide (0 < t273) = false := decide_eq_false g1
                by_cases g2 : t273 = 0
                · have s2 : 2 * r = d := by have h2 := Z273.out; omega
                  have S2 := Aside0.mk s2
                  have g2b : (t273 == 0) = true := beq_iff_eq.mpr g2
                  clear s1 s2 g1 g2
                  by_cases g3 : q % 2 = 1
                  · have g3b : (Int.tmod (rd t261 0) 2 == 1) = true := by rw [OQ.out]; exact beq_iff_eq.mpr g3
                    have G3 := Aside0.mk g3
                    clear g3
                    (go_wp2
                     go_meet
                     case rel => exact ⟨by simp [upOf, U3.out, S1.out, S2.out, G3.out], ⟨by (with_reducible repeat (first | apply Kd.R_alloc | apply Kd.R_drewN | apply Kd.R_drew)); exact Kd.R_mono HO264.out (fun _ hk => trivial)⟩, ⟨by repeat (first | (with_reducible first | exact HB.out | apply below_alloc | apply q14q | apply below_drew1) | exact HB.out)⟩⟩)
                  · have g3b : (Int.tmod (rd t261 0) 2 == 1) = false := by rw [OQ.out]; exact beq_eq_false_iff_ne.mpr g3
                    have G3 := Aside0.mk g3
                    clear g3
                    (go_wp2
                     go_meet
                     case rel => exact ⟨by simp [upOf, U3.out, S1.out, S2.out, G3.out], ⟨by (with_reducible repeat (first | apply Kd.R_alloc | apply Kd.R_drewN | apply Kd.R_drew)); exact Kd.R_mono HO264.out (fun _ hk => trivial)⟩, ⟨by repeat (first | (with_reducible first | exact HB.out | apply below_alloc | apply q14q | apply below_drew1) | exact HB.out)⟩⟩)
                · have s2 : ¬ 2 * r = d := by have h2 := Z273.out; omega
                  have S2 := Aside0.mk s2
                  have g2b : (t273 == 0) = false := beq_eq_false_iff_ne.mpr g2
                  clear s1 s2 g1 g2
                  (go_wp2
                   go_meet
                   case rel => exact ⟨by simp [upOf, U3.out, S1.out, S2.out], ⟨by (with_reducible repeat (first | apply Kd.R_alloc | apply Kd.R_drewN | apply Kd.R_drew)); exact Kd.R_mono HO264.out (fun _ hk => trivial)⟩, ⟨by repeat (first | (with_reducible first | exact HB.out | apply below_alloc | apply q14q | apply below_drew1) | exact HB.out)⟩⟩)
          · have c29b0 : decide (0 < (t261.length : Int)) = false := decide_eq_false (by omega)
            have c29b1 : decide (0 < t261.length) = false := decide_eq_false c29
            have q00 : q = 0 := by have h1 := B261.out.pos_iff; have h2 := B261.out.nonneg; omega
            clear c29
            go_upto_region 8 with (first | ((with_reducible refine gate_callee (f := 44) rfl ?_); refine goesL_ (some 53) rfl rfl Try.func44 (by kernel_rfl) rfl #[.slice Ao24 t262.length co24, .slice Ao24 t262.length co24] rfl (by (try simp only [List.map_toArray, List.map_cons, List.map_nil]); first | done | rfl | (simp only [List.length_drop, List.length_take]; rfl)) ?_; (with_reducible refine (q5q.calls K _ _ t262 _ _ t262 t267 _ ?side1 ?side2 ?side3 ?side4 A26.out).mono ?_); (case side1 => repeat (first | exact (Kd.R_reads' HO266.out).2.2 | (with_reducible refine Kd.C_alloc ?_ _) | (with_reducible refine Kd.C_drewN ?_ _) | (with_reducible refine Kd.C_drew ?_))); (case side2 => exact (Kd.R_reads' HO266.out).2.1); (case side3 => repeat (first | exact (Kd.R_reads' HO266.out).2.2 | (with_reducible refine Kd.C_alloc ?_ _) | (with_reducible refine Kd.C_drewN ?_ _) | (with_reducible refine Kd.C_drew ?_))); (case side4 => exact (Kd.R_reads' HO266.out).2.1); rintro e w33 ⟨v268, rfl, ho0, hb⟩; refine ⟨_, rfl, ?_⟩; have n0_ := Aside0.mk (Kd.R_elder' (by (with_reducible repeat (first | apply Kd.R_alloc | apply Kd.R_drewN | apply Kd.R_drew)); exact HO251.out) (Kd.R_base ho0) hb); have n1_ := Aside0.mk (Kd.R_elder' (by (with_reducible repeat (first | apply Kd.R_alloc | apply Kd.R_drewN | apply Kd.R_drew)); exact HO254.out) (Kd.R_base ho0) hb); have n2_ := Aside0.mk (Kd.R_elder' (by (with_reducible repeat (first | apply Kd.R_alloc | apply Kd.R_drewN | apply Kd.R_drew)); exact HO257.out) (Kd.R_base ho0) hb); have n3_ := Aside0.mk (Kd.R_elder' (by (with_reducible repeat (first | apply Kd.R_alloc | apply Kd.R_drewN | apply Kd.R_drew)); exact HO260.out) (Kd.R_base ho0) hb); have n4_ := Aside0.mk (Kd.R_elder' (by (with_reducible repeat (first | apply Kd.R_alloc | apply Kd.R_drewN | apply Kd.R_drew)); exact HO264.out) (Kd.R_base ho0) hb); have n5_ := Aside0.mk (Kd.R_elder' (by (with_reducible repeat (first | apply Kd.R_alloc | apply Kd.R_drewN | apply Kd.R_drew)); exact HO266.out) (Kd.R_base ho0) hb); have n6_ := Aside0.mk (Kd.R_lower (Kd.R_new' (Kd.R_new' (Kd.R_new' (Kd.R_new' (Kd.R_new' (Kd.R_new' ho0 (Kd.R_lt (by (with_reducible repeat (first | apply Kd.R_alloc | apply Kd.R_drewN | apply Kd.R_drew)); exact HO251.out))) (Kd.R_lt (by (with_reducible repeat (first | apply Kd.R_alloc | apply Kd.R_drewN | apply Kd.R_drew)); exact HO254.out))) (Kd.R_lt (by (with_reducible repeat (first | apply Kd.R_alloc | apply Kd.R_drewN | apply Kd.R_drew)); exact HO257.out))) (Kd.R_lt (by (with_reducible repeat (first | apply Kd.R_alloc | apply Kd.R_drewN | apply Kd.R_drew)); exact HO260.out))) (Kd.R_lt (by (with_reducible repeat (first | apply Kd.R_alloc | apply Kd.R_drewN | apply Kd.R_drew)); exact HO264.out))) (Kd.R_lt (by (with_reducible repeat (first | apply Kd.R_alloc | apply Kd.R_drewN | apply Kd.R_drew)); exact HO266.out))) (below_size (by repeat (first | (with_reducible first | exact HB.out | apply below_alloc | apply q14q | apply below_drew1) | exact HB.out)))); have n7_ := Aside0.mk (below_step (by repeat (first | (with_reducible first | exact HB.out | apply below_alloc | apply q14q | apply below_drew1) | exact HB.out)) hb); clear HO251; clear HO254; clear HO257; clear HO260; clear HO264; clear HO266; clear HB; have HO251 := n0_; have HO254 := n1_; have HO257 := n2_; have HO260 := n3_; have HO264 := n4_; have HO266 := n5_; have HO269 := n6_; have HB := n7_; clear n0_ n1_ n2_ n3_ n4_ n5_ n6_ n7_; (try clear hb); (try clear hb2); (try clear hk); (try clear hi); (try clear ho0)) | ((with_reducible refine gate_callee (f := 42) rfl ?_); refine goesL_ (some 55) rfl rfl Try.func42 (by kernel_rfl) rfl #[.int .i64 a2] rfl (by (try simp only [List.map_toArray, List.map_cons, List.map_nil]); first | done | rfl | (simp only [List.length_drop, List.length_take]; rfl)) ?_; (with_reducible refine (q23q.calls K a2 t258 _ A27.out).mono ?_); rintro e w34 ⟨v271, rfl, ho0, hb⟩; refine ⟨_, rfl, ?_⟩; have n0_ := Aside0.mk (Kd.R_elder' (by (with_reducible repeat (first | apply Kd.R_alloc | apply Kd.R_drewN | apply Kd.R_drew)); exact HO251.out) (Kd.R_base ho0) hb); have n1_ := Aside0.mk (Kd.R_elder' (by (with_reducible repeat (first | apply Kd.R_alloc | apply Kd.R_drewN | apply Kd.R_drew)); exact HO254.out) (Kd.R_base ho0) hb); have n2_ := Aside0.mk (Kd.R_elder' (by (with_reducible repeat (first | apply Kd.R_alloc | apply Kd.R_drewN | apply Kd.R_drew)); exact HO257.out) (Kd.R_base ho0) hb); have n3_ := Aside0.mk (Kd.R_elder' (by (with_reducible repeat (first | apply Kd.R_alloc | apply Kd.R_drewN | apply Kd.R_drew)); exact HO260.out) (Kd.R_base ho0) hb); have n4_ := Aside0.mk (Kd.R_elder' (by (with_reducible repeat (first | apply Kd.R_alloc | apply Kd.R_drewN | apply Kd.R_drew)); exact HO264.out) (Kd.R_base ho0) hb); have n5_ := Aside0.mk (Kd.R_elder' (by (with_reducible repeat (first | apply Kd.R_alloc | apply Kd.R_drewN | apply Kd.R_drew)); exact HO266.out) (Kd.R_base ho0) hb); have n6_ := Aside0.mk (Kd.R_elder' (by (with_reducible repeat (first | apply Kd.R_alloc | apply Kd.R_drewN | apply Kd.R_drew)); exact HO269.out) (Kd.R_base ho0) hb); have n7_ := Aside0.mk (Kd.R_lower (Kd.R_new' (Kd.R_new' (Kd.R_new' (Kd.R_new' (Kd.R_new' (Kd.R_new' (Kd.R_new' ho0 (Kd.R_lt (by (with_reducible repeat (first | apply Kd.R_alloc | apply Kd.R_drewN | apply Kd.R_drew)); exact HO251.out))) (Kd.R_lt (by (with_reducible repeat (first | apply Kd.R_alloc | apply Kd.R_drewN | apply Kd.R_drew)); exact HO254.out))) (Kd.R_lt (by (with_reducible repeat (first | apply Kd.R_alloc | apply Kd.R_drewN | apply Kd.R_drew)); exact HO257.out))) (Kd.R_lt (by (with_reducible repeat (first | apply Kd.R_alloc | apply Kd.R_drewN | apply Kd.R_drew)); exact HO260.out))) (Kd.R_lt (by (with_reducible repeat (first | apply Kd.R_alloc | apply Kd.R_drewN | apply Kd.R_drew)); exact HO264.out))) (Kd.R_lt (by (with_reducible repeat (first | apply Kd.R_alloc | apply Kd.R_drewN | apply Kd.R_drew)); exact HO266.out))) (Kd.R_lt (by (with_reducible repeat (first | apply Kd.R_alloc | apply Kd.R_drewN | apply Kd.R_drew)); exact HO269.out))) (below_size (by repeat (first | (with_reducible first | exact HB.out | apply below_alloc | apply q14q | apply below_drew1) | exact HB.out)))); have n8_ := Aside0.mk (below_step (by repeat (first | (with_reducible first | exact HB.out | apply below_alloc | apply q14q | apply below_drew1) | exact HB.out)) hb); clear HO251; clear HO254; clear HO257; clear HO260; clear HO264; clear HO266; clear HO269; clear HB; have HO251 := n0_; have HO254 := n1_; have HO257 := n2_; have HO260 := n3_; have HO264 := n4_; have HO266 := n5_; have HO269 := n6_; have HO272 := n7_; have HB := n8_; clear n0_ n1_ n2_ n3_ n4_ n5_ n6_ n7_ n8_; (try clear hb); (try clear hb2); (try clear hk); (try clear hi); (try clear ho0); obtain ⟨Ao35, co35, eo35⟩ := Kd.R_slice HO269.out; subst eo35; obtain ⟨Ao36, co36, eo36⟩ := Kd.R_slice HO272.out; subst eo36) | ((with_reducible refine gate_callee (f := 43) rfl ?_); refine goesL_ (some 56) rfl rfl Try.func43 (by kernel_rfl) rfl #[.slice Ao35 t267.length co35, .slice Ao36 t258.length co36] rfl (by (try simp only [List.map_toArray, List.map_cons, List.map_nil]); first | done | rfl | (simp only [List.length_drop, List.length_take]; rfl)) ?_; (with_reducible refine (q11q.calls K _ _ t267 _ _ t258 t273 _ ?side1 ?side2 ?side3 ?side4 A28.out).mono ?_); (case side1 => repeat (first | exact (Kd.R_reads' HO269.out).2.2 | (with_reducible refine Kd.C_alloc ?_ _) | (with_reducible refine Kd.C_drewN ?_ _) | (with_reducible refine Kd.C_drew ?_))); (case side2 => exact (Kd.R_reads' HO269.out).2.1); (case side3 => repeat (first | exact (Kd.R_reads' HO272.out).2.2 | (with_reducible refine Kd.C_alloc ?_ _) | (with_reducible refine Kd.C_drewN ?_ _) | (with_reducible refine Kd.C_drew ?_))); (case side4 => exact (Kd.R_reads' HO272.out).2.1); rintro e w' ⟨rfl, ⟨nd, rfl⟩⟩; refine ⟨_, rfl, ?_⟩; obtain ⟨Ao37, co37, eo37⟩ := Kd.R_slice HO264.out; subst eo37))
            subst q00
            have u3 : r ≠ 0 := by have := RP.out; omega
            have U3 := Aside0.mk u3
            clear u3
            rcases H3.out with rfl | rfl | rfl | rfl
            · cases m <;>
                (go_wp2
                 go_meet
                 case rel => exact ⟨by simp [upOf, U3.out], ⟨by (with_reducible repeat (first | apply Kd.R_alloc | apply Kd.R_drewN | apply Kd.R_drew)); exact Kd.R_mono HO264.out (fun _ hk => trivial)⟩, ⟨by repeat (first | (with_reducible first | exact HB.out | apply below_alloc | apply q14q | apply below_drew1) | exact HB.out)⟩⟩)
            · cases m <;>
                (go_wp2
                 go_meet
                 case rel => exact ⟨by simp [upOf, U3.out], ⟨by (with_reducible repeat (first | apply Kd.R_alloc | apply Kd.R_drewN | apply Kd.R_drew)); exact Kd.R_mono HO264.out (fun _ hk => trivial)⟩, ⟨by repeat (first | (with_reducible first | exact HB.out | apply below_alloc | apply q14q | apply below_drew1) | exact HB.out)⟩⟩)
            ·
              (go_wp2
               go_meet
               case rel => exact ⟨by simp [upOf, U3.out], ⟨by (with_reducible repeat (first | apply Kd.R_alloc | apply Kd.R_drewN | apply Kd.R_drew)); exact Kd.R_mono HO264.out (fun _ hk => trivial)⟩, ⟨by repeat (first | (with_reducible first | exact HB.out | apply below_alloc | apply q14q | apply below_drew1) | exact HB.out)⟩⟩)
            · by_cases g1 : 0 < t273
              · have s1 : d < 2 * r := by have h1 := C273.out; have h2 := Z273.out; omega
                have S1 := Aside0.mk s1
                have g1b : decide (0 < t273) = true := decide_eq_true g1
                clear s1 g1
                (go_wp2
                 go_meet
                 case rel => exact ⟨by simp [upOf, U3.out, S1.out], ⟨by (with_reducible repeat (first | apply Kd.R_alloc | apply Kd.R_drewN | apply Kd.R_drew)); exact Kd.R_mono HO264.out (fun _ hk => trivial)⟩, ⟨by repeat (first | (with_reducible first | exact HB.out | apply below_alloc | apply q14q | apply below_drew1) | exact HB.out)⟩⟩)
              · have s1 : ¬ d < 2 * r := by have h1 := C273.out; have h2 := Z273.out; omega
                have S1 := Aside0.mk s1
                have g1b : decide (0 < t273) = false := decide_eq_false g1
                by_cases g2 : t273 = 0
                · have s2 : 2 * r = d := by have h2 := Z273.out; omega
                  have S2 := Aside0.mk s2
                  have g2b : (t273 == 0) = true := beq_iff_eq.mpr g2
                  clear s1 s2 g1 g2
                  (go_wp2
                   go_meet
                   case rel => exact ⟨by simp [upOf, U3.out, S1.out, S2.out], ⟨by (with_reducible repeat (first | apply Kd.R_alloc | apply Kd.R_drewN | apply Kd.R_drew)); exact Kd.R_mono HO264.out (fun _ hk => trivial)⟩, ⟨by repeat (first | (with_reducible first | exact HB.out | apply below_alloc | apply q14q | apply below_drew1) | exact HB.out)⟩⟩)
                · have s2 : ¬ 2 * r = d := by have h2 := Z273.out; omega
                  have S2 := Aside0.mk s2
                  have g2b : (t273 == 0) = false := beq_eq_false_iff_ne.mpr g2
                  clear s1 s2 g1 g2
                  (go_wp2
                   go_meet
                   case rel => exact ⟨by simp [upOf, U3.out, S1.out, S2.out], ⟨by (with_reducible repeat (first | apply Kd.R_alloc | apply Kd.R_drewN | apply Kd.R_drew)); exact Kd.R_mono HO264.out (fun _ hk => trivial)⟩, ⟨by repeat (first | (with_reducible first | exact HB.out | apply below_alloc | apply q14q | apply below_drew1) | exact HB.out)⟩⟩)
        · have hr : r = 0 := by have h1 := B262.out.pos_iff; have h2 := B262.out.nonneg; omega
          have RP := Aside0.mk hr
          clear hr
          have c25b0 : decide (0 < (t262.length : Int)) = false := decide_eq_false (by omega)
          have c25b1 : decide (0 < t262.length) = false := decide_eq_false c25
          (first | rw [c25b1] | rw [c25b0] | skip)
          clear c25
          go_wp2
          go_meet
          case rel => exact ⟨by rw [RP.out]; simp [upOf], ⟨by (with_reducible repeat (first | apply Kd.R_alloc | apply Kd.R_drewN | apply Kd.R_drew)); exact Kd.R_mono HO264.out (fun _ hk => trivial)⟩, ⟨by repeat (first | (with_reducible first | exact HB.out | apply below_alloc | apply q14q | apply below_drew1) | exact HB.out)⟩⟩
      case rest =>
        clear HO264 HB
        obtain ⟨rfl, HO_11, HB⟩ := hcut
        generalize upOf m q r d a3 = u at *
        go_upto_if 95 with (fail)
        go_cut [11] (fun v11 wc => ∃ l : List Int, Aside0 (q19q.f K l = some ((q + if u = true then 1 else 0) / 18446744073709551616, (q + if u = true then 1 else 0) % 18446744073709551616, true)) ∧ Aside0 (Kd.R (Kd.int .u64) 93 wc w.heap.size (fun _ => True) v11 l) ∧ Aside0 (Below w.heap.size w wc))
        case first =>
          cases u with
          | true =>
            go_wp2_with (first | ((with_reducible refine gate_callee (f := 45) rfl ?_); refine goesL_ (some 97) rfl rfl Try.func45 (by kernel_rfl) rfl #[.int .u64 1] rfl (by (try simp only [List.map_toArray, List.map_cons, List.map_nil]); first | done | rfl | (simp only [List.length_drop, List.length_take]; rfl)) ?_; (with_reducible refine (q13q.calls K 1 t275 _ A259.out).mono ?_); rintro e w261 ⟨v276, rfl, ho0, hb⟩; refine ⟨_, rfl, ?_⟩; have n0_ := Aside0.mk (Kd.R_elder' (by (with_reducible repeat (first | apply Kd.R_alloc | apply Kd.R_drewN | apply Kd.R_drew)); exact HO_11.out) (Kd.R_base ho0) hb); have n1_ := Aside0.mk (Kd.R_lower (Kd.R_new' ho0 (Kd.R_lt (by (with_reducible repeat (first | apply Kd.R_alloc | apply Kd.R_drewN | apply Kd.R_drew)); exact HO_11.out))) (below_size (by repeat (first | (with_reducible first | exact HB.out | apply below_alloc | apply q14q | apply below_drew1) | exact HB.out)))); have n2_ := Aside0.mk (below_step (by repeat (first | (with_reducible first | exact HB.out | apply below_alloc | apply q14q | apply below_drew1) | exact HB.out)) hb); clear HO_11; clear HB; have HO_11 := n0_; have HO277 := n1_; have HB := n2_; clear n0_ n1_ n2_; (try clear hb); (try clear hb2); (try clear hk); (try clear hi); (try clear ho0); obtain ⟨Ao262, co262, eo262⟩ := Kd.R_slice HO_11.out; subst eo262; obtain ⟨Ao263, co263, eo263⟩ := Kd.R_slice HO277.out; subst eo263) | ((with_reducible refine gate_callee (f := 44) rfl ?_); refine goesL_ (some 98) rfl rfl Try.func44 (by kernel_rfl) rfl #[.slice Ao262 t261.length co262, .slice Ao263 t275.length co263] rfl (by (try simp only [List.map_toArray, List.map_cons, List.map_nil]); first | done | rfl | (simp only [List.length_drop, List.length_take]; rfl)) ?_; (with_reducible refine (q5q.calls K _ _ t261 _ _ t275 t278 _ ?side1 ?side2 ?side3 ?side4 A260.out).mono ?_); (case side1 => repeat (first | exact (Kd.R_reads' HO_11.out).2.2 | (with_reducible refine Kd.C_alloc ?_ _) | (with_reducible refine Kd.C_drewN ?_ _) | (with_reducible refine Kd.C_drew ?_))); (case side2 => exact (Kd.R_reads' HO_11.out).2.1); (case side3 => repeat (first | exact (Kd.R_reads' HO277.out).2.2 | (with_reducible refine Kd.C_alloc ?_ _) | (with_reducible refine Kd.C_drewN ?_ _) | (with_reducible refine Kd.C_drew ?_))); (case side4 => exact (Kd.R_reads' HO277.out).2.1); rintro e w264 ⟨v279, rfl, ho0, hb⟩; refine ⟨_, rfl, ?_⟩; have n0_ := Aside0.mk (Kd.R_elder' (by (with_reducible repeat (first | apply Kd.R_alloc | apply Kd.R_drewN | apply Kd.R_drew)); exact HO_11.out) (Kd.R_base ho0) hb); have n1_ := Aside0.mk (Kd.R_elder' (by (with_reducible repeat (first | apply Kd.R_alloc | apply Kd.R_drewN | apply Kd.R_drew)); exact HO277.out) (Kd.R_base ho0) hb); have n2_ := Aside0.mk (Kd.R_lower (Kd.R_new' (Kd.R_new' ho0 (Kd.R_lt (by (with_reducible repeat (first | apply Kd.R_alloc | apply Kd.R_drewN | apply Kd.R_drew)); exact HO_11.out))) (Kd.R_lt (by (with_reducible repeat (first | apply Kd.R_alloc | apply Kd.R_drewN | apply Kd.R_drew)); exact HO277.out))) (below_size (by repeat (first | (with_reducible first | exact HB.out | apply below_alloc | apply q14q | apply below_drew1) | exact HB.out)))); have n3_ := Aside0.mk (below_step (by repeat (first | (with_reducible first | exact HB.out | apply below_alloc | apply q14q | apply below_drew1) | exact HB.out)) hb); clear HO_11; clear HO277; clear HB; have HO_11 := n0_; have HO277 := n1_; have HO280 := n2_; have HB := n3_; clear n0_ n1_ n2_ n3_; (try clear hb); (try clear hb2); (try clear hk); (try clear hi); (try clear ho0)))
            go_meet
            case rel => exact ⟨t278, ⟨by simpa using A99.out⟩, ⟨by (with_reducible repeat (first | apply Kd.R_alloc | apply Kd.R_drewN | apply Kd.R_drew)); exact Kd.R_mono HO280.out (fun _ hk => trivial)⟩, ⟨by repeat (first | (with_reducible first | exact HB.out | apply below_alloc | apply q14q | apply below_drew1) | exact HB.out)⟩⟩
          | false =>
            go_wp2
            go_meet
            case rel => exact ⟨t261, ⟨by simpa using A8.out⟩, ⟨by (with_reducible repeat (first | apply Kd.R_alloc | apply Kd.R_drewN | apply Kd.R_drew)); exact Kd.R_mono HO_11.out (fun _ hk => trivial)⟩, ⟨by repeat (first | (with_reducible first | exact HB.out | apply below_alloc | apply q14q | apply below_drew1) | exact HB.out)⟩⟩
        case rest =>
          clear HO_11 HB
          obtain ⟨x11_256, A265, HO_11, HB⟩ := hcut
          have X0 : Aside0 (0 ≤ q + if u = true then 1 else 0) := ⟨by have := Q0.out; split <;> omega⟩
          generalize (q + if u = true then 1 else 0) = x at *
          obtain ⟨t281, h281⟩ : ∃ t, t = x / 18446744073709551616 := ⟨_, rfl⟩
          obtain ⟨t282, h282⟩ : ∃ t, t = x % 18446744073709551616 := ⟨_, rfl⟩
          obtain ⟨t283, h283⟩ : ∃ t, t = true := ⟨_, rfl⟩
          rw [← h281, ← h282, ← h283] at A265
          have H281 := Aside0.mk h281
          have H282 := Aside0.mk h282
          clear h281 h282 h283
          obtain ⟨Ao267, co267, eo267⟩ := Kd.R_slice HO_11.out
          subst eo267
          go_upto_region 13 with (first | ((with_reducible refine gate_callee (f := 46) rfl ?_); refine goesL_ (some 101) rfl rfl Try.func46 (by kernel_rfl) rfl #[.slice Ao267 x11_256.length co267] rfl (by (try simp only [List.map_toArray, List.map_cons, List.map_nil]); first | done | rfl | (simp only [List.length_drop, List.length_take]; rfl)) ?_; (with_reducible refine (q19q.calls K _ _ x11_256 t281 t282 t283 _ ?side1 ?side2 A265.out).mono ?_); (case side1 => repeat (first | exact (Kd.R_reads' HO_11.out).2.2 | (with_reducible refine Kd.C_alloc ?_ _) | (with_reducible refine Kd.C_drewN ?_ _) | (with_reducible refine Kd.C_drew ?_))); (case side2 => exact (Kd.R_reads' HO_11.out).2.1); rintro e w' ⟨rfl, ⟨nd, rfl⟩⟩; refine ⟨_, rfl, ?_⟩))
          (try simp only [Act.put, List.setIfInBounds_toArray, List.set_cons_zero, List.set_cons_succ])
          by_cases g1 : 0 < t281
          · have z : signOf m x = (0, 9) := by
              have := H281.out
              unfold signOf; rw [if_pos (.inl (by omega))]
            rw [z] at HS
            obtain ⟨rfl, rfl⟩ := Prod.mk.inj HS.out
            have g1b : decide (0 < t281) = true := decide_eq_true g1
            clear g1 z
            go_wp2
            go_ret2
            exact ⟨rfl, by repeat (first | (with_reducible first | exact HB.out | apply below_alloc | apply q14q | apply below_drew1) | exact HB.out)⟩
          · have xe : x = t282 := by have := H281.out; have := H282.out; have := X0.out; omega
            have xl : 0 ≤ t282 ∧ t282 < 18446744073709551616 := by have := H282.out; omega
            have XL := Aside0.mk xl
            rw [xe] at HS
            have g1b : decide (0 < t281) = false := decide_eq_false g1
            clear H281 H282 X0 g1 xe xl
            by_cases g2 : 9223372036854775808 < t282
            · have z : signOf m t282 = (0, 9) := by unfold signOf; rw [if_pos (.inl g2)]
              rw [z] at HS
              obtain ⟨rfl, rfl⟩ := Prod.mk.inj HS.out
              have g2b : decide (9223372036854775808 < t282) = true := decide_eq_true g2
              clear g2 z
              go_wp2
              go_ret2
              exact ⟨rfl, by repeat (first | (with_reducible first | exact HB.out | apply below_alloc | apply q14q | apply below_drew1) | exact HB.out)⟩
            · have g2b : decide (9223372036854775808 < t282) = false := decide_eq_false g2
              by_cases g3 : t282 = 9223372036854775808
              · have g3b : (t282 == 9223372036854775808) = true := beq_iff_eq.mpr g3
                cases m with
                | false =>
                  have z : signOf false t282 = (0, 9) := by unfold signOf; rw [if_pos (.inr ⟨g3, rfl⟩)]
                  rw [z] at HS
                  obtain ⟨rfl, rfl⟩ := Prod.mk.inj HS.out
                  clear g2 g3 z
                  go_wp2
                  go_ret2
                  exact ⟨rfl, by repeat (first | (with_reducible first | exact HB.out | apply below_alloc | apply q14q | apply below_drew1) | exact HB.out)⟩
                | true =>
                  have z : signOf true t282 = (-9223372036854775808, 0) := by unfold signOf; rw [if_neg (by simp; omega), g3]; rfl
                  rw [z] at HS
                  obtain ⟨rfl, rfl⟩ := Prod.mk.inj HS.out
                  clear g2 g3 z
                  go_wp2
                  go_ret2
                  exact ⟨rfl, by repeat (first | (with_reducible first | exact HB.out | apply below_alloc | apply q14q | apply below_drew1) | exact HB.out)⟩
              · have g3b : (t282 == 9223372036854775808) = false := beq_eq_false_iff_ne.mpr g3
                have w1 : wrap64 t282 = t282 := PBig.w64 (by have := XL.out; omega) (by omega)
                have w2 : wrap64 (-t282) = -t282 := PBig.w64 (by omega) (by have := XL.out; omega)
                cases m with
                | false =>
                  have z : signOf false t282 = (t282, 0) := by unfold signOf; rw [if_neg (by simp; omega)]; rfl
                  rw [z] at HS
                  obtain ⟨h1, rfl⟩ := Prod.mk.inj HS.out
                  have W1 := Aside0.mk (w1.trans h1)
                  clear g2 g3 z w1 w2 h1
                  go_wp2
                  go_ret2
                  exact ⟨by rw [← W1.out]; rfl, by repeat (first | (with_reducible first | exact HB.out | apply below_alloc | apply q14q | apply below_drew1) | exact HB.out)⟩
                | true =>
                  have z : signOf true t282 = (-t282, 0) := by unfold signOf; rw [if_neg (by simp; omega)]; rfl
                  rw [z] at HS
                  obtain ⟨h1, rfl⟩ := Prod.mk.inj HS.out
                  have W1 : Aside0 (wrap64 (-(wrap64 t282)) = r1) := ⟨by rw [w1, w2]; exact h1⟩
                  clear g2 g3 z w1 w2 h1
                  go_wp2
                  go_ret2
                  exact ⟨by rw [← W1.out]; rfl, by repeat (first | (with_reducible first | exact HB.out | apply below_alloc | apply q14q | apply below_drew1) | exact HB.out)⟩
end Go.Proofs.Ytlbhjkbjokiioaa.X
