/- The chapter's example (awake): walked at its one input. -/
import Derived.Test.YtbhfedfkckddjaaPBasket
set_option linter.unusedVariables false
set_option linter.unusedSimpArgs false
open Go Go.Ab Go.Proofs
namespace Go.Proofs.Ytbhfedfkckddjaa.R
open Go.Proofs.Ytbhfedfkckddjaa.Pure
abbrev R1 : O := .row 1 [[i64 1]]
theorem new_con : Con Try.prog 8 [] [] (fun r os => r = .at 3 0 ∧ os = [(3, .box [.ref 1, .t (boo true)]), (1, .map false 0 [])]) :=
  Con_run Try.call8 Try.func8 [3, 1] [] (by kernel_rfl) (And.intro (rfl : A.at 3 0 = A.at 3 0) (rfl : [(3, O.box [.ref 1, .t (boo true)]), (1, .map false 0 [])] = [(3, O.box [.ref 1, .t (boo true)]), (1, .map false 0 [])])) (by kernel_rfl)
theorem ins_con : Con Try.prog 54 [.ref 19, .t (i64 0), .t (i64 1)] [(19, R1)] (fun r os => r = .tup [] ∧ os = [(19, R1)]) := by
  have l : LW Try.prog 49 (loopAt Try.f54 0) (At (.exit 0) [.keep [] [19]] (mkSt [] [(19, R1)] [19])) (mkSt [(0, .ref 19), (1, .t (i64 0)), (2, .t (i64 1)), (6, .t (i64 1))] [(19, R1)] [19]) :=
    LW_run [.dir 12 false] [] (And.intro (rfl : decide ((1 : Int) < 1) = false) (And.intro (rfl : (Exit.exit 0) = .exit 0) (rfl : mkSt [] [(19, R1)] [19] = mkSt [] [(19, R1)] [19]))) (by kernel_rfl)
  exact Con_run Try.call54 Try.func54 [19] [.blk 0 [.keep [0, 1, 2, 6] [19]], .loop (.exit 0) [.keep [] [19]] (mkSt [] [(19, R1)] [19])] (by kernel_rfl) (And.intro l (And.intro (rfl : A.tup [] = .tup []) (rfl : [(19, R1)] = [(19, R1)]))) (by kernel_rfl)
theorem len64_con : Con Try.prog 63 [.t (.v (.int .u64 1))] [] (fun r os => r = .t (i64 1) ∧ os = []) :=
  Con_run Try.call63 Try.func63 [] [.reg 10 [] [(3, .row 1 [.v (.int .u8 1)])]] (by kernel_rfl) (And.intro (And.intro (rfl : (1 : Int) = 1) (rfl : some (1 : Int) = some 1)) (And.intro (rfl : A.t (i64 1) = A.t (i64 1)) (rfl : ([] : List (Nat × O)) = []))) (by kernel_rfl)
theorem len_con : Con Try.prog 52 [.t (.v (.int .u64 1))] [] (fun r os => r = .t (i64 1) ∧ os = []) :=
  Con_run Try.call52 Try.func52 [] [.reg 2 [] [(1, .call [] (.t (i64 1)) [])]] (by kernel_rfl) (And.intro len64_con (And.intro (rfl : A.t (i64 1) = A.t (i64 1)) (rfl : ([] : List (Nat × O)) = []))) (by kernel_rfl)
theorem pdq_con : Con Try.prog 51 [.ref 19, .t (i64 0), .t (i64 1), .t (i64 1)] [(19, R1)] (fun r os => r = .tup [] ∧ os = [(19, R1)]) := by
  have l : LW Try.prog 134 (loopAt Try.f51 0) (At .ret [.keep [] [19]] (mkSt [] [(19, R1)] [19])) (mkSt [(0, .ref 19), (1, .t (i64 0)), (2, .t (i64 1)), (3, .t (i64 1)), (8, .t (boo true)), (9, .t (boo true))] [(19, R1)] [19]) := by
    exact LW_run [.reg 4 [] [(3, .call [19] (.tup []) [(19, R1)])]] [] (And.intro ins_con (And.intro (rfl : Exit.ret = .ret) (rfl : mkSt [] [(19, R1)] [19] = mkSt [] [(19, R1)] [19]))) (by kernel_rfl)
  exact Con_run Try.call51 Try.func51 [19] [.blk 0 [.keep [0, 1, 2, 3, 8, 9] [19]], .loop .ret [.keep [] [19]] (mkSt [] [(19, R1)] [19])] (by kernel_rfl) (And.intro l (And.intro (rfl : A.tup [] = .tup []) (rfl : [(19, R1)] = [(19, R1)]))) (by kernel_rfl)
theorem sort_con : Con Try.prog 44 [.ref 19] [(19, R1)] (fun r os => r = .tup [] ∧ os = [(19, R1)]) :=
  Con_run Try.call44 Try.func44 [19] [.reg 1 [] [(4, .call [] (.t (i64 1)) []), (5, .call [19] (.tup []) [(19, R1)])]] (by kernel_rfl) (And.intro (And.intro len_con pdq_con) (And.intro (rfl : A.tup [] = .tup []) (rfl : [(19, R1)] = [(19, R1)]))) (by kernel_rfl)
def plainV : api_Basket := ⟨1, 1, ⟨#[69, 85, 82]⟩, 5, 30, 1000, [⟨1000, 20, 0⟩], 0, 0, []⟩
abbrev B100 : O := .box [.ref 100, .t (boo true)]
abbrev M1 : O := .map false 1 [⟨.int .i64 1, 0, [.sl 10 [plainV.enc]]⟩]
def plainA : A := .agg (ts plainV.enc)
theorem set_con (hm : msg_Basket plainV 0) (hc : basket_copied plainV plainV) : Con Try.prog 11 [.at 101 0, plainA] [(101, B100), (100, .map false 0 [])] (fun r os => r = .t (i64 0) ∧ os = [(101, B100), (100, M1)]) :=
  Con_run Try.call11 Try.func11 [101, 100] [.reg 3 [] [(1, .call [] (.t (i64 0)) [])], .reg 6 [] [(6, .got none)], .reg 13 [] [(8, .call [] plainA []), (10, .fz), (11, .got none)]] (by kernel_rfl)
    (And.intro (msg_Basket_con hm) (And.intro (rfl : some (none : Option (Nat × Ent)) = some none) (And.intro (And.intro (basket_copied_con hc) (And.intro (app1 (b := 120) (r := plainV.enc)) (rfl : some (none : Option (Nat × Ent)) = some none))) (And.intro (rfl : A.t (i64 0) = A.t (i64 0)) (rfl : [(101, B100), (100, M1)] = [(101, B100), (100, M1)]))))) (by kernel_rfl)
abbrev E1 : Ent := ⟨.int .i64 1, 0, [.sl 10 [plainV.enc]]⟩
theorem ids_con : Con Try.prog 30 [.at 101 0] [(101, B100), (100, M1)] (fun r os => r = .t (.sl 1 [[i64 1]]) ∧ os = [(101, B100), (100, M1)]) := by
  have l2 : LW Try.prog 23 (loopAt Try.f30 0) (At (.exit 0) [.keep [3] [101, 100, 19]] (mkSt [(3, .ref 19)] [(101, B100), (100, M1), (19, R1)] [101, 100])) (mkSt [(3, .ref 19), (11, .at 11 0)] [(101, B100), (100, M1), (11, .iter 100 1 [0] 1), (19, R1)] [101, 100]) :=
    LW_run [.reg 5 [] [(0, .got none)]] [] (And.intro (And.intro (by simp : ∀ x ∈ [E1], x.born < 1) (And.intro (Nat.le_refl 1) (rfl : ([] : List Ent) = []))) (And.intro (rfl : (Exit.exit 0) = .exit 0) (rfl : mkSt [(3, .ref 19)] [(101, B100), (100, M1), (19, R1)] [101, 100] = mkSt [(3, .ref 19)] [(101, B100), (100, M1), (19, R1)] [101, 100]))) (by kernel_rfl)
  have l1 : LW Try.prog 23 (loopAt Try.f30 0) (At (.exit 0) [.keep [3] [101, 100, 19]] (mkSt [(3, .ref 19)] [(101, B100), (100, M1), (19, R1)] [101, 100])) (mkSt [(3, .t (.v (.slice none 0 0))), (11, .at 11 0)] [(101, B100), (100, M1), (11, .iter 100 1 [] 1)] [101, 100]) :=
    LW_run [.reg 5 [] [(0, .got (some (0, E1)))], .reg 6 [] [(0, .ent E1)]] [.keep [3, 11] [101, 100, 11, 19]] (And.intro (And.intro (by simp : ∀ x ∈ [E1], x.born < 1) (And.intro (Nat.le_refl 1) (And.intro (rfl : [E1] = [E1]) (rfl : some E1 = some E1)))) (And.intro (And.intro (rfl : some 0 = some 0) (rfl : some E1 = some E1)) (And.intro (app1 (b := 8) (r := [i64 1])) l2))) (by kernel_rfl)
  exact Con_run Try.call30 Try.func30 [101, 100] [.blk 0 [.keep [3, 11] [101, 100, 11]], .loop (.exit 0) [.keep [3] [101, 100, 19]] (mkSt [(3, .ref 19)] [(101, B100), (100, M1), (19, R1)] [101, 100]), .reg 8 [] [(1, .call [19] (.tup []) [(19, R1)])]] (by kernel_rfl)
    (And.intro l1 (And.intro sort_con (And.intro (rfl : A.t (.sl 1 [[i64 1]]) = A.t (.sl 1 [[i64 1]])) (rfl : [(101, B100), (100, M1)] = [(101, B100), (100, M1)])))) (by kernel_rfl)
theorem new2_con : Con Try.prog 8 [] [] (fun r os => r = .at 101 0 ∧ os = [(101, B100), (100, .map false 0 [])]) :=
  Con.ren 1 100 (by decide) rfl (Con.ren 3 101 (by decide) rfl new_con)
def assetV (r m : Int) : api_Asset := ⟨ByteArray.empty, 0, r, m, ⟨#[69, 85, 82]⟩⟩
theorem awake_con0 (hp : lombardlaw14_plain plainV) (h1 : basket_Why plainV (assetV 6 100) 0 2) (h2 : basket_Why plainV (assetV 5 29) 0 3) (h3 : basket_Fits plainV (assetV 5 30) 0 true) (hm : msg_Basket plainV 0) (hc : basket_copied plainV plainV) : Con Try.prog 13 [] [] (fun r os => r = .t (boo true) ∧ os = []) := by
  exact Con_run Try.call13 Try.func13 [] [.reg 4 [] [(0, .call [] (.at 101 0) [(101, B100), (100, .map false 0 [])])], .reg 5 [] [(0, .call [] plainA []), (2, .call [] (.t (i64 2)) []), (5, .call [] plainA []), (7, .call [] (.t (i64 3)) []), (11, .call [] plainA []), (13, .call [] (.t (boo true)) []), (17, .call [] plainA []), (18, .call [101, 100] (.t (i64 0)) [(101, B100), (100, M1)]), (23, .call [101, 100] (.t (.sl 1 [[i64 1]])) [(101, B100), (100, M1)])]] (by kernel_rfl) (And.intro new2_con (And.intro (And.intro (lombardlaw14_plain_con hp) (And.intro (basket_Why_con h1) (And.intro (lombardlaw14_plain_con hp) (And.intro (basket_Why_con h2) (And.intro (lombardlaw14_plain_con hp) (And.intro (basket_Fits_con h3) (And.intro (lombardlaw14_plain_con hp) (And.intro (set_con hm hc) ids_con)))))))) (And.intro (rfl : A.t (boo true) = .t (boo true)) (rfl : ([] : List (Nat × O)) = [])))) (by kernel_rfl)
theorem plain_good : Good plainV := ⟨by decide, by decide, fun j x y _ _ _ hy => by simp [plainV] at hy⟩
theorem plain_msg : msg_Basket plainV 0 := by
  obtain ⟨rc, hc, hr⟩ : ∃ r, isin_Currency plainV.Currency r ∧ r = true := isin_Currency_of (Q := fun r => r = true) (by
    unfold isin_Currency_wp; exact iteI (fun _ => rfl) (fun h => absurd rfl h))
  subst hr
  obtain ⟨o1, hl1, rfl⟩ : ∃ o, msg_Basket_L1 plainV 0 o ∧ o = .e1 := msg_Basket_of1 (Q := fun o => o = .e1) (by
    unfold msg_Basket_w1; simp [lenM_eq, plainV])
  obtain ⟨o2, hl2, rfl⟩ : ∃ o, msg_Basket_L0 plainV 1 o ∧ o = .e1 := msg_Basket_of0 (Q := fun o => o = .e1) (by
    unfold msg_Basket_w0; simp [lenM_eq, plainV])
  obtain ⟨o3, hl3, rfl⟩ : ∃ o, msg_Basket_L0 plainV 0 o ∧ o = .e1 := msg_Basket_of0 (Q := fun o => o = .e1) (by
    unfold msg_Basket_w0
    rw [if_pos (by simp [lenM_eq, plainV])]
    refine ⟨by decide, ⟨1000, 20, 0⟩, rfl, ?_⟩
    simp only []
    rw [if_neg (by decide), if_neg (by decide), if_neg (by decide), if_neg (by decide), if_neg (by decide), if_neg (by decide)]
    exact ⟨by decide, _, hl2, rfl⟩)
  have h1 : ∃ r, msg_Basket_1 0 r ∧ r = true := msg_Basket_1_of (Q := fun r => r = true) (by unfold msg_Basket_1_wp; simp)
  obtain ⟨r1, h1, rfl⟩ := h1
  obtain ⟨r, h, rfl⟩ := msg_Basket_of (a0 := plainV) (Q := fun r => r = 0) (by
    unfold msg_Basket_wp
    rw [if_neg (by decide), if_neg (by decide), if_neg (by decide), if_neg (by decide), if_neg (by decide), if_neg (by decide)]
    refine ⟨true, h1, ?_⟩
    rw [if_pos rfl]
    refine ⟨true, h1, ?_⟩
    rw [if_pos rfl, if_neg (by simp [lenM_eq, plainV]), if_neg (by simp [lenM_eq, plainV]), if_neg (by simp [lenM_eq, plainV]), if_neg (by decide), if_neg (by decide), if_neg (by decide)]
    refine ⟨true, hc, ?_⟩
    rw [if_pos rfl]
    exact ⟨_, hl3, _, hl1, rfl⟩)
  exact h
theorem plain_copied : basket_copied plainV plainV := .p0 _ _ (.p0 (by decide)) (.p0 (by decide))
inductive lombardlaw14_awake : Bool → Prop
  | p0 : lombardlaw14_awake true
theorem lombardlaw14_awake_con {r0_ : Bool} (h : lombardlaw14_awake r0_) : Con Try.prog 13 [] [] (fun r os => r = (.t (boo r0_)) ∧ os = []) := by
  cases h
  have w (a : api_Asset) (n : Int) (h1 : 0 ≤ a.Maturity) (h2 : a.Maturity ≤ 200000) (h : why plainV a 0 = n) : basket_Why plainV a 0 n := by
    have := why1 plainV a 0 plain_good h1 h2; rwa [h] at this
  have f := fits1 plainV (assetV 5 30) 0 plain_good (by decide) (by decide)
  exact awake_con0 .p0 (w _ _ (by decide) (by decide) (by decide)) (w _ _ (by decide) (by decide) (by decide)) (by rwa [show (why plainV (assetV 5 30) 0 == 0) = true by decide] at f) plain_msg plain_copied
end Go.Proofs.Ytbhfedfkckddjaa.R
