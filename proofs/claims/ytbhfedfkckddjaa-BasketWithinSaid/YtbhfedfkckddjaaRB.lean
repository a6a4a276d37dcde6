import Derived.Test.YtbhfedfkckddjaaRW
open Go Go.Ab Go.Proofs
namespace Go.Proofs.Ytbhfedfkckddjaa.R
set_option linter.unusedVariables false
set_option linter.unusedSimpArgs false

inductive lombardlaw14_BasketTakes (a0 : api_Basket) (a1 : api_Basket) (a2 : api_Asset) (a3 : Int) : Bool → Prop
  | p0 (r1 : Int) (r2 : Bool) (h1 : lombardref10_Basket a0 r1) (h2 : r1 ≠ 0) (h3 : lombardlaw14_awake r2) : lombardlaw14_BasketTakes a0 a1 a2 a3 (id r2)
  | p1 (r1 : Int) (r2 : Int) (r3 : Bool) (h1 : lombardref10_Basket a0 r1) (h2 : r1 = 0) (h3 : lombardref10_Basket a1 r2) (h4 : r2 ≠ 0) (h5 : lombardlaw14_awake r3) : lombardlaw14_BasketTakes a0 a1 a2 a3 (id r3)
  | p2 (r1 : Int) (r2 : Int) (r3 : Bool) (h1 : lombardref10_Basket a0 r1) (h2 : r1 = 0) (h3 : lombardref10_Basket a1 r2) (h4 : r2 = 0) (h5 : a2.Maturity < 0) (h6 : lombardlaw14_awake r3) : lombardlaw14_BasketTakes a0 a1 a2 a3 (id r3)
  | p3 (r1 : Int) (r2 : Int) (r3 : Bool) (h1 : lombardref10_Basket a0 r1) (h2 : r1 = 0) (h3 : lombardref10_Basket a1 r2) (h4 : r2 = 0) (h5 : ¬ (a2.Maturity < 0)) (h6 : a2.Maturity > 200000) (h7 : lombardlaw14_awake r3) : lombardlaw14_BasketTakes a0 a1 a2 a3 (id r3)
  | p4 (r1 : Int) (r2 : Int) (r3 : Int) (r4 : Int) (r5 : Bool) (r6 : Bool) (r7 : Bool) (r8 : Bool) (h1 : lombardref10_Basket a0 r1) (h2 : r1 = 0) (h3 : lombardref10_Basket a1 r2) (h4 : r2 = 0) (h5 : ¬ (a2.Maturity < 0)) (h6 : ¬ (a2.Maturity > 200000)) (h7 : lombardref14_Why a0 a2 a3 r3) (h8 : basket_Why a0 a2 a3 r4) (h9 : r4 = r3) (h10 : basket_Fits a0 a2 a3 r5) (h11 : r5 = (r3 == 0)) (h12 : basket_Within a0 a1 r6) (h13 : lombardref14_Within a0 a1 r7) (h14 : r6 = r7) (h15 : lombardlaw14_awake r8) : lombardlaw14_BasketTakes a0 a1 a2 a3 (id r8)
  | p5 (r1 : Int) (r2 : Int) (r3 : Int) (r4 : Int) (r5 : Bool) (r6 : Bool) (r7 : Bool) (h1 : lombardref10_Basket a0 r1) (h2 : r1 = 0) (h3 : lombardref10_Basket a1 r2) (h4 : r2 = 0) (h5 : ¬ (a2.Maturity < 0)) (h6 : ¬ (a2.Maturity > 200000)) (h7 : lombardref14_Why a0 a2 a3 r3) (h8 : basket_Why a0 a2 a3 r4) (h9 : r4 = r3) (h10 : basket_Fits a0 a2 a3 r5) (h11 : r5 = (r3 == 0)) (h12 : basket_Within a0 a1 r6) (h13 : lombardref14_Within a0 a1 r7) (h14 : r6 ≠ r7) : lombardlaw14_BasketTakes a0 a1 a2 a3 false
  | p6 (r1 : Int) (r2 : Int) (r3 : Int) (r4 : Int) (r5 : Bool) (h1 : lombardref10_Basket a0 r1) (h2 : r1 = 0) (h3 : lombardref10_Basket a1 r2) (h4 : r2 = 0) (h5 : ¬ (a2.Maturity < 0)) (h6 : ¬ (a2.Maturity > 200000)) (h7 : lombardref14_Why a0 a2 a3 r3) (h8 : basket_Why a0 a2 a3 r4) (h9 : r4 = r3) (h10 : basket_Fits a0 a2 a3 r5) (h11 : r5 ≠ (r3 == 0)) : lombardlaw14_BasketTakes a0 a1 a2 a3 false
  | p7 (r1 : Int) (r2 : Int) (r3 : Int) (r4 : Int) (h1 : lombardref10_Basket a0 r1) (h2 : r1 = 0) (h3 : lombardref10_Basket a1 r2) (h4 : r2 = 0) (h5 : ¬ (a2.Maturity < 0)) (h6 : ¬ (a2.Maturity > 200000)) (h7 : lombardref14_Why a0 a2 a3 r3) (h8 : basket_Why a0 a2 a3 r4) (h9 : r4 ≠ r3) : lombardlaw14_BasketTakes a0 a1 a2 a3 false
theorem lombardlaw14_BasketTakes_con {a0 : api_Basket} {a1 : api_Basket} {a2 : api_Asset} {a3 : Int} {r0_ : Bool} (h : lombardlaw14_BasketTakes a0 a1 a2 a3 r0_) : Con Try.prog 4 [(.agg [(.t (.v (.int .i64 (a0.ID)))), (.t (.v (.int .i64 (a0.Version)))), (.t (str (a0.Currency))), (.t (.v (.int .i64 (a0.Rating)))), (.t (.v (.int .i64 (a0.Least)))), (.t (.v (.int .i64 (a0.Most)))), (.t (.sl 3 ((a0.Cuts : List api_Cut).map api_Cut.enc))), (.t (.v (.int .i64 (a0.Issuer)))), (.t (.v (.int .i64 (a0.Asset)))), (.t (.sl 1 ((a0.Barred : List Int).map (fun x => [.v (.int .i64 x)]))))]), (.agg [(.t (.v (.int .i64 (a1.ID)))), (.t (.v (.int .i64 (a1.Version)))), (.t (str (a1.Currency))), (.t (.v (.int .i64 (a1.Rating)))), (.t (.v (.int .i64 (a1.Least)))), (.t (.v (.int .i64 (a1.Most)))), (.t (.sl 3 ((a1.Cuts : List api_Cut).map api_Cut.enc))), (.t (.v (.int .i64 (a1.Issuer)))), (.t (.v (.int .i64 (a1.Asset)))), (.t (.sl 1 ((a1.Barred : List Int).map (fun x => [.v (.int .i64 x)]))))]), (.agg [(.t (str (a2.ISIN))), (.t (.v (.int .i64 (a2.Issuer)))), (.t (.v (.int .i64 (a2.Rating)))), (.t (.v (.int .i64 (a2.Maturity)))), (.t (str (a2.Currency)))]), (.t (.v (.int .i64 (a3))))] [] (fun r os => r = (.t (boo (r0_))) ∧ os = []) := by
  induction h with
  | p0 r1 r2 h1 h2 h3 =>
    have qr : ((.t (boo (r2))) : A) = (.t (boo (r2))) := by first | rfl | (simp only [List.map_append, List.map_cons, List.map_nil, List.map_set, List.map_take, List.map_drop, List.map_replicate]; done)
    exact Con_run Try.call4 Try.func4 [] [.reg 1 [] [(1, .call [] (.t (.v (.int .i64 (r1)))) []), (3, .dir true)], .reg 2 [] [(0, .call [] (.t (boo (r2))) [])]] (by kernel_rfl) (And.intro (And.intro (lombardref10_Basket_con h1) (bne_iff_ne.2 h2)) (And.intro (lombardlaw14_awake_con h3) (And.intro qr (rfl : ([] : List (Nat × O)) = [])))) (by kernel_rfl)
  | p1 r1 r2 r3 h1 h2 h3 h4 h5 =>
    have qr : ((.t (boo (r3))) : A) = (.t (boo (r3))) := by first | rfl | (simp only [List.map_append, List.map_cons, List.map_nil, List.map_set, List.map_take, List.map_drop, List.map_replicate]; done)
    exact Con_run Try.call4 Try.func4 [] [.reg 1 [] [(1, .call [] (.t (.v (.int .i64 (r1)))) []), (3, .dir false), (5, .call [] (.t (.v (.int .i64 (r2)))) []), (8, .dir true)], .reg 2 [] [(0, .call [] (.t (boo (r3))) [])]] (by kernel_rfl) (And.intro (And.intro (lombardref10_Basket_con h1) (And.intro (bne_eq_false_iff_eq.2 h2) (And.intro (lombardref10_Basket_con h3) (bne_iff_ne.2 h4)))) (And.intro (lombardlaw14_awake_con h5) (And.intro qr (rfl : ([] : List (Nat × O)) = [])))) (by kernel_rfl)
  | p2 r1 r2 r3 h1 h2 h3 h4 h5 h6 =>
    have qr : ((.t (boo (r3))) : A) = (.t (boo (r3))) := by first | rfl | (simp only [List.map_append, List.map_cons, List.map_nil, List.map_set, List.map_take, List.map_drop, List.map_replicate]; done)
    exact Con_run Try.call4 Try.func4 [] [.reg 1 [] [(1, .call [] (.t (.v (.int .i64 (r1)))) []), (3, .dir false), (5, .call [] (.t (.v (.int .i64 (r2)))) []), (8, .dir false), (13, .dir true)], .reg 2 [] [(0, .call [] (.t (boo (r3))) [])]] (by kernel_rfl) (And.intro (And.intro (lombardref10_Basket_con h1) (And.intro (bne_eq_false_iff_eq.2 h2) (And.intro (lombardref10_Basket_con h3) (And.intro (bne_eq_false_iff_eq.2 h4) (decide_eq_true h5))))) (And.intro (lombardlaw14_awake_con h6) (And.intro qr (rfl : ([] : List (Nat × O)) = [])))) (by kernel_rfl)
  | p3 r1 r2 r3 h1 h2 h3 h4 h5 h6 h7 =>
    have qr : ((.t (boo (r3))) : A) = (.t (boo (r3))) := by first | rfl | (simp only [List.map_append, List.map_cons, List.map_nil, List.map_set, List.map_take, List.map_drop, List.map_replicate]; done)
    exact Con_run Try.call4 Try.func4 [] [.reg 1 [] [(1, .call [] (.t (.v (.int .i64 (r1)))) []), (3, .dir false), (5, .call [] (.t (.v (.int .i64 (r2)))) []), (8, .dir false), (13, .dir false)], .dir 27 true, .reg 2 [] [(0, .call [] (.t (boo (r3))) [])]] (by kernel_rfl) (And.intro (And.intro (lombardref10_Basket_con h1) (And.intro (bne_eq_false_iff_eq.2 h2) (And.intro (lombardref10_Basket_con h3) (And.intro (bne_eq_false_iff_eq.2 h4) (decide_eq_false h5))))) (And.intro (decide_eq_true h6) (And.intro (lombardlaw14_awake_con h7) (And.intro qr (rfl : ([] : List (Nat × O)) = []))))) (by kernel_rfl)
  | p4 r1 r2 r3 r4 r5 r6 r7 r8 h1 h2 h3 h4 h5 h6 h7 h8 h9 h10 h11 h12 h13 h14 h15 =>
    have qr : ((.t (boo (r8))) : A) = (.t (boo (r8))) := by first | rfl | (simp only [List.map_append, List.map_cons, List.map_nil, List.map_set, List.map_take, List.map_drop, List.map_replicate]; done)
    exact Con_run Try.call4 Try.func4 [] [.reg 1 [] [(1, .call [] (.t (.v (.int .i64 (r1)))) []), (3, .dir false), (5, .call [] (.t (.v (.int .i64 (r2)))) []), (8, .dir false), (13, .dir false)], .dir 27 false, .reg 3 [] [(3, .call [] (.t (.v (.int .i64 (r3)))) [])], .reg 4 [] [(3, .call [] (.t (.v (.int .i64 (r4)))) []), (6, .dir true), (10, .call [] (.t (boo (r5))) []), (15, .dir true), (18, .call [] (.t (boo (r6))) []), (21, .call [] (.t (boo (r7))) []), (24, .dir true), (25, .call [] (.t (boo (r8))) [])]] (by kernel_rfl) (And.intro (And.intro (lombardref10_Basket_con h1) (And.intro (bne_eq_false_iff_eq.2 h2) (And.intro (lombardref10_Basket_con h3) (And.intro (bne_eq_false_iff_eq.2 h4) (decide_eq_false h5))))) (And.intro (decide_eq_false h6) (And.intro (lombardref14_Why_con h7) (And.intro (And.intro (basket_Why_con h8) (And.intro (beq_iff_eq.2 h9) (And.intro (basket_Fits_con h10) (And.intro (beq_iff_eq.2 h11) (And.intro (basket_Within_con h12) (And.intro (lombardref14_Within_con h13) (And.intro (beq_iff_eq.2 h14) (lombardlaw14_awake_con h15)))))))) (And.intro qr (rfl : ([] : List (Nat × O)) = [])))))) (by kernel_rfl)
  | p5 r1 r2 r3 r4 r5 r6 r7 h1 h2 h3 h4 h5 h6 h7 h8 h9 h10 h11 h12 h13 h14 =>
    have qr : ((.t (boo (false))) : A) = (.t (boo (false))) := by first | rfl | (simp only [List.map_append, List.map_cons, List.map_nil, List.map_set, List.map_take, List.map_drop, List.map_replicate]; done)
    exact Con_run Try.call4 Try.func4 [] [.reg 1 [] [(1, .call [] (.t (.v (.int .i64 (r1)))) []), (3, .dir false), (5, .call [] (.t (.v (.int .i64 (r2)))) []), (8, .dir false), (13, .dir false)], .dir 27 false, .reg 3 [] [(3, .call [] (.t (.v (.int .i64 (r3)))) [])], .reg 4 [] [(3, .call [] (.t (.v (.int .i64 (r4)))) []), (6, .dir true), (10, .call [] (.t (boo (r5))) []), (15, .dir true), (18, .call [] (.t (boo (r6))) []), (21, .call [] (.t (boo (r7))) []), (24, .dir false)]] (by kernel_rfl) (And.intro (And.intro (lombardref10_Basket_con h1) (And.intro (bne_eq_false_iff_eq.2 h2) (And.intro (lombardref10_Basket_con h3) (And.intro (bne_eq_false_iff_eq.2 h4) (decide_eq_false h5))))) (And.intro (decide_eq_false h6) (And.intro (lombardref14_Why_con h7) (And.intro (And.intro (basket_Why_con h8) (And.intro (beq_iff_eq.2 h9) (And.intro (basket_Fits_con h10) (And.intro (beq_iff_eq.2 h11) (And.intro (basket_Within_con h12) (And.intro (lombardref14_Within_con h13) (beq_eq_false_iff_ne.2 h14))))))) (And.intro qr (rfl : ([] : List (Nat × O)) = [])))))) (by kernel_rfl)
  | p6 r1 r2 r3 r4 r5 h1 h2 h3 h4 h5 h6 h7 h8 h9 h10 h11 =>
    have qr : ((.t (boo (false))) : A) = (.t (boo (false))) := by first | rfl | (simp only [List.map_append, List.map_cons, List.map_nil, List.map_set, List.map_take, List.map_drop, List.map_replicate]; done)
    exact Con_run Try.call4 Try.func4 [] [.reg 1 [] [(1, .call [] (.t (.v (.int .i64 (r1)))) []), (3, .dir false), (5, .call [] (.t (.v (.int .i64 (r2)))) []), (8, .dir false), (13, .dir false)], .dir 27 false, .reg 3 [] [(3, .call [] (.t (.v (.int .i64 (r3)))) [])], .reg 4 [] [(3, .call [] (.t (.v (.int .i64 (r4)))) []), (6, .dir true), (10, .call [] (.t (boo (r5))) []), (15, .dir false)]] (by kernel_rfl) (And.intro (And.intro (lombardref10_Basket_con h1) (And.intro (bne_eq_false_iff_eq.2 h2) (And.intro (lombardref10_Basket_con h3) (And.intro (bne_eq_false_iff_eq.2 h4) (decide_eq_false h5))))) (And.intro (decide_eq_false h6) (And.intro (lombardref14_Why_con h7) (And.intro (And.intro (basket_Why_con h8) (And.intro (beq_iff_eq.2 h9) (And.intro (basket_Fits_con h10) (beq_eq_false_iff_ne.2 h11)))) (And.intro qr (rfl : ([] : List (Nat × O)) = [])))))) (by kernel_rfl)
  | p7 r1 r2 r3 r4 h1 h2 h3 h4 h5 h6 h7 h8 h9 =>
    have qr : ((.t (boo (false))) : A) = (.t (boo (false))) := by first | rfl | (simp only [List.map_append, List.map_cons, List.map_nil, List.map_set, List.map_take, List.map_drop, List.map_replicate]; done)
    exact Con_run Try.call4 Try.func4 [] [.reg 1 [] [(1, .call [] (.t (.v (.int .i64 (r1)))) []), (3, .dir false), (5, .call [] (.t (.v (.int .i64 (r2)))) []), (8, .dir false), (13, .dir false)], .dir 27 false, .reg 3 [] [(3, .call [] (.t (.v (.int .i64 (r3)))) [])], .reg 4 [] [(3, .call [] (.t (.v (.int .i64 (r4)))) []), (6, .dir false)]] (by kernel_rfl) (And.intro (And.intro (lombardref10_Basket_con h1) (And.intro (bne_eq_false_iff_eq.2 h2) (And.intro (lombardref10_Basket_con h3) (And.intro (bne_eq_false_iff_eq.2 h4) (decide_eq_false h5))))) (And.intro (decide_eq_false h6) (And.intro (lombardref14_Why_con h7) (And.intro (And.intro (basket_Why_con h8) (beq_eq_false_iff_ne.2 h9)) (And.intro qr (rfl : ([] : List (Nat × O)) = [])))))) (by kernel_rfl)
def lombardlaw14_BasketTakes_wp (a0 : api_Basket) (a1 : api_Basket) (a2 : api_Asset) (a3 : Int) (Q : Bool → Prop) : Prop := ∃ r1 : Int, (lombardref10_Basket a0 r1) ∧ ((if r1 = 0 then (∃ r2 : Int, (lombardref10_Basket a1 r2) ∧ ((if r2 = 0 then ((if a2.Maturity < 0 then (∃ r3 : Bool, (lombardlaw14_awake r3) ∧ (Q r3)) else ((if a2.Maturity > 200000 then (∃ r3 : Bool, (lombardlaw14_awake r3) ∧ (Q r3)) else (∃ r3 : Int, (lombardref14_Why a0 a2 a3 r3) ∧ (∃ r4 : Int, (basket_Why a0 a2 a3 r4) ∧ ((if r4 = r3 then (∃ r5 : Bool, (basket_Fits a0 a2 a3 r5) ∧ ((if r5 = (r3 == 0) then (∃ r6 : Bool, (basket_Within a0 a1 r6) ∧ (∃ r7 : Bool, (lombardref14_Within a0 a1 r7) ∧ ((if r6 = r7 then (∃ r8 : Bool, (lombardlaw14_awake r8) ∧ (Q r8)) else (Q false))))) else (Q false)))) else (Q false))))))))) else (∃ r3 : Bool, (lombardlaw14_awake r3) ∧ (Q r3))))) else (∃ r2 : Bool, (lombardlaw14_awake r2) ∧ (Q r2))))
theorem lombardlaw14_BasketTakes_of {a0 : api_Basket} {a1 : api_Basket} {a2 : api_Asset} {a3 : Int} {Q : Bool → Prop} (h : lombardlaw14_BasketTakes_wp a0 a1 a2 a3 Q) : ∃ (r0_ : Bool), lombardlaw14_BasketTakes a0 a1 a2 a3 r0_ ∧ Q r0_ := by
  unfold lombardlaw14_BasketTakes_wp at h
  obtain ⟨r1, h⟩ := h
  obtain ⟨h1, h⟩ := h
  by_cases hc : r1 = 0
  · have h2 : r1 = 0 := hc
    replace h := ifP hc h
    obtain ⟨r2, h⟩ := h
    obtain ⟨h3, h⟩ := h
    by_cases hc : r2 = 0
    · have h4 : r2 = 0 := hc
      replace h := ifP hc h
      by_cases hc : a2.Maturity < 0
      · have h5 : a2.Maturity < 0 := hc
        replace h := ifP hc h
        obtain ⟨r3, h⟩ := h
        obtain ⟨h6, h⟩ := h
        exact ⟨_, .p2 r1 r2 r3 h1 h2 h3 h4 h5 h6, h⟩
      · have h5 : ¬ (a2.Maturity < 0) := hc
        replace h := ifN hc h
        by_cases hc : a2.Maturity > 200000
        · have h6 : a2.Maturity > 200000 := hc
          replace h := ifP hc h
          obtain ⟨r3, h⟩ := h
          obtain ⟨h7, h⟩ := h
          exact ⟨_, .p3 r1 r2 r3 h1 h2 h3 h4 h5 h6 h7, h⟩
        · have h6 : ¬ (a2.Maturity > 200000) := hc
          replace h := ifN hc h
          obtain ⟨r3, h⟩ := h
          obtain ⟨h7, h⟩ := h
          obtain ⟨r4, h⟩ := h
          obtain ⟨h8, h⟩ := h
          by_cases hc : r4 = r3
          · have h9 : r4 = r3 := hc
            replace h := ifP hc h
            obtain ⟨r5, h⟩ := h
            obtain ⟨h10, h⟩ := h
            by_cases hc : r5 = (r3 == 0)
            · have h11 : r5 = (r3 == 0) := hc
              replace h := ifP hc h
              obtain ⟨r6, h⟩ := h
              obtain ⟨h12, h⟩ := h
              obtain ⟨r7, h⟩ := h
              obtain ⟨h13, h⟩ := h
              by_cases hc : r6 = r7
              · have h14 : r6 = r7 := hc
                replace h := ifP hc h
                obtain ⟨r8, h⟩ := h
                obtain ⟨h15, h⟩ := h
                exact ⟨_, .p4 r1 r2 r3 r4 r5 r6 r7 r8 h1 h2 h3 h4 h5 h6 h7 h8 h9 h10 h11 h12 h13 h14 h15, h⟩
              · have h14 : r6 ≠ r7 := hc
                replace h := ifN hc h
                exact ⟨_, .p5 r1 r2 r3 r4 r5 r6 r7 h1 h2 h3 h4 h5 h6 h7 h8 h9 h10 h11 h12 h13 h14, h⟩
            · have h11 : r5 ≠ (r3 == 0) := hc
              replace h := ifN hc h
              exact ⟨_, .p6 r1 r2 r3 r4 r5 h1 h2 h3 h4 h5 h6 h7 h8 h9 h10 h11, h⟩
          · have h9 : r4 ≠ r3 := hc
            replace h := ifN hc h
            exact ⟨_, .p7 r1 r2 r3 r4 h1 h2 h3 h4 h5 h6 h7 h8 h9, h⟩
    · have h4 : r2 ≠ 0 := hc
      replace h := ifN hc h
      obtain ⟨r3, h⟩ := h
      obtain ⟨h5, h⟩ := h
      exact ⟨_, .p1 r1 r2 r3 h1 h2 h3 h4 h5, h⟩
  · have h2 : r1 ≠ 0 := hc
    replace h := ifN hc h
    obtain ⟨r2, h⟩ := h
    obtain ⟨h3, h⟩ := h
    exact ⟨_, .p0 r1 r2 h1 h2 h3, h⟩
inductive lombardlaw14_BasketWithin (a0 : api_Basket) (a1 : api_Basket) (a2 : api_Asset) (a3 : Int) : Bool → Prop
  | p0 (r1 : Int) (r2 : Bool) (h1 : lombardref10_Basket a0 r1) (h2 : r1 ≠ 0) (h3 : lombardlaw14_awake r2) : lombardlaw14_BasketWithin a0 a1 a2 a3 (id r2)
  | p1 (r1 : Int) (r2 : Int) (r3 : Bool) (h1 : lombardref10_Basket a0 r1) (h2 : r1 = 0) (h3 : lombardref10_Basket a1 r2) (h4 : r2 ≠ 0) (h5 : lombardlaw14_awake r3) : lombardlaw14_BasketWithin a0 a1 a2 a3 (id r3)
  | p2 (r1 : Int) (r2 : Int) (r3 : Bool) (h1 : lombardref10_Basket a0 r1) (h2 : r1 = 0) (h3 : lombardref10_Basket a1 r2) (h4 : r2 = 0) (h5 : a2.Maturity < 0) (h6 : lombardlaw14_awake r3) : lombardlaw14_BasketWithin a0 a1 a2 a3 (id r3)
  | p3 (r1 : Int) (r2 : Int) (r3 : Bool) (h1 : lombardref10_Basket a0 r1) (h2 : r1 = 0) (h3 : lombardref10_Basket a1 r2) (h4 : r2 = 0) (h5 : ¬ (a2.Maturity < 0)) (h6 : a2.Maturity > 200000) (h7 : lombardlaw14_awake r3) : lombardlaw14_BasketWithin a0 a1 a2 a3 (id r3)
  | p4 (r1 : Int) (r2 : Int) (r3 : Bool) (r4 : Bool) (r5 : Bool) (h1 : lombardref10_Basket a0 r1) (h2 : r1 = 0) (h3 : lombardref10_Basket a1 r2) (h4 : r2 = 0) (h5 : ¬ (a2.Maturity < 0)) (h6 : ¬ (a2.Maturity > 200000)) (h7 : basket_Within a0 a1 r3) (h8 : r3 = false) (h9 : basket_Within a0 a0 r4) (h10 : r4 = true) (h11 : lombardlaw14_awake r5) : lombardlaw14_BasketWithin a0 a1 a2 a3 (id r5)
  | p5 (r1 : Int) (r2 : Int) (r3 : Bool) (r4 : Bool) (h1 : lombardref10_Basket a0 r1) (h2 : r1 = 0) (h3 : lombardref10_Basket a1 r2) (h4 : r2 = 0) (h5 : ¬ (a2.Maturity < 0)) (h6 : ¬ (a2.Maturity > 200000)) (h7 : basket_Within a0 a1 r3) (h8 : r3 = false) (h9 : basket_Within a0 a0 r4) (h10 : r4 = false) : lombardlaw14_BasketWithin a0 a1 a2 a3 false
  | p6 (r1 : Int) (r2 : Int) (r3 : Bool) (r4 : Bool) (r5 : Bool) (r6 : Bool) (h1 : lombardref10_Basket a0 r1) (h2 : r1 = 0) (h3 : lombardref10_Basket a1 r2) (h4 : r2 = 0) (h5 : ¬ (a2.Maturity < 0)) (h6 : ¬ (a2.Maturity > 200000)) (h7 : basket_Within a0 a1 r3) (h8 : r3 = true) (h9 : basket_Fits a0 a2 a3 r4) (h10 : r4 = false) (h11 : basket_Within a0 a0 r5) (h12 : r5 = true) (h13 : lombardlaw14_awake r6) : lombardlaw14_BasketWithin a0 a1 a2 a3 (id r6)
  | p7 (r1 : Int) (r2 : Int) (r3 : Bool) (r4 : Bool) (r5 : Bool) (h1 : lombardref10_Basket a0 r1) (h2 : r1 = 0) (h3 : lombardref10_Basket a1 r2) (h4 : r2 = 0) (h5 : ¬ (a2.Maturity < 0)) (h6 : ¬ (a2.Maturity > 200000)) (h7 : basket_Within a0 a1 r3) (h8 : r3 = true) (h9 : basket_Fits a0 a2 a3 r4) (h10 : r4 = false) (h11 : basket_Within a0 a0 r5) (h12 : r5 = false) : lombardlaw14_BasketWithin a0 a1 a2 a3 false
  | p8 (r1 : Int) (r2 : Int) (r3 : Bool) (r4 : Bool) (r5 : Bool) (r6 : Bool) (r7 : Bool) (h1 : lombardref10_Basket a0 r1) (h2 : r1 = 0) (h3 : lombardref10_Basket a1 r2) (h4 : r2 = 0) (h5 : ¬ (a2.Maturity < 0)) (h6 : ¬ (a2.Maturity > 200000)) (h7 : basket_Within a0 a1 r3) (h8 : r3 = true) (h9 : basket_Fits a0 a2 a3 r4) (h10 : r4 = true) (h11 : basket_Fits a1 a2 a3 r5) (h12 : r5 = true) (h13 : basket_Within a0 a0 r6) (h14 : r6 = true) (h15 : lombardlaw14_awake r7) : lombardlaw14_BasketWithin a0 a1 a2 a3 (id r7)
  | p9 (r1 : Int) (r2 : Int) (r3 : Bool) (r4 : Bool) (r5 : Bool) (r6 : Bool) (h1 : lombardref10_Basket a0 r1) (h2 : r1 = 0) (h3 : lombardref10_Basket a1 r2) (h4 : r2 = 0) (h5 : ¬ (a2.Maturity < 0)) (h6 : ¬ (a2.Maturity > 200000)) (h7 : basket_Within a0 a1 r3) (h8 : r3 = true) (h9 : basket_Fits a0 a2 a3 r4) (h10 : r4 = true) (h11 : basket_Fits a1 a2 a3 r5) (h12 : r5 = true) (h13 : basket_Within a0 a0 r6) (h14 : r6 = false) : lombardlaw14_BasketWithin a0 a1 a2 a3 false
  | p10 (r1 : Int) (r2 : Int) (r3 : Bool) (r4 : Bool) (r5 : Bool) (h1 : lombardref10_Basket a0 r1) (h2 : r1 = 0) (h3 : lombardref10_Basket a1 r2) (h4 : r2 = 0) (h5 : ¬ (a2.Maturity < 0)) (h6 : ¬ (a2.Maturity > 200000)) (h7 : basket_Within a0 a1 r3) (h8 : r3 = true) (h9 : basket_Fits a0 a2 a3 r4) (h10 : r4 = true) (h11 : basket_Fits a1 a2 a3 r5) (h12 : r5 = false) : lombardlaw14_BasketWithin a0 a1 a2 a3 false
theorem lombardlaw14_BasketWithin_con {a0 : api_Basket} {a1 : api_Basket} {a2 : api_Asset} {a3 : Int} {r0_ : Bool} (h : lombardlaw14_BasketWithin a0 a1 a2 a3 r0_) : Con Try.prog 5 [(.agg [(.t (.v (.int .i64 (a0.ID)))), (.t (.v (.int .i64 (a0.Version)))), (.t (str (a0.Currency))), (.t (.v (.int .i64 (a0.Rating)))), (.t (.v (.int .i64 (a0.Least)))), (.t (.v (.int .i64 (a0.Most)))), (.t (.sl 3 ((a0.Cuts : List api_Cut).map api_Cut.enc))), (.t (.v (.int .i64 (a0.Issuer)))), (.t (.v (.int .i64 (a0.Asset)))), (.t (.sl 1 ((a0.Barred : List Int).map (fun x => [.v (.int .i64 x)]))))]), (.agg [(.t (.v (.int .i64 (a1.ID)))), (.t (.v (.int .i64 (a1.Version)))), (.t (str (a1.Currency))), (.t (.v (.int .i64 (a1.Rating)))), (.t (.v (.int .i64 (a1.Least)))), (.t (.v (.int .i64 (a1.Most)))), (.t (.sl 3 ((a1.Cuts : List api_Cut).map api_Cut.enc))), (.t (.v (.int .i64 (a1.Issuer)))), (.t (.v (.int .i64 (a1.Asset)))), (.t (.sl 1 ((a1.Barred : List Int).map (fun x => [.v (.int .i64 x)]))))]), (.agg [(.t (str (a2.ISIN))), (.t (.v (.int .i64 (a2.Issuer)))), (.t (.v (.int .i64 (a2.Rating)))), (.t (.v (.int .i64 (a2.Maturity)))), (.t (str (a2.Currency)))]), (.t (.v (.int .i64 (a3))))] [] (fun r os => r = (.t (boo (r0_))) ∧ os = []) := by
  induction h with
  | p0 r1 r2 h1 h2 h3 =>
    have qr : ((.t (boo (r2))) : A) = (.t (boo (r2))) := by first | rfl | (simp only [List.map_append, List.map_cons, List.map_nil, List.map_set, List.map_take, List.map_drop, List.map_replicate]; done)
    exact Con_run Try.call5 Try.func5 [] [.reg 1 [] [(1, .call [] (.t (.v (.int .i64 (r1)))) []), (3, .dir true)], .reg 2 [] [(0, .call [] (.t (boo (r2))) [])]] (by kernel_rfl) (And.intro (And.intro (lombardref10_Basket_con h1) (bne_iff_ne.2 h2)) (And.intro (lombardlaw14_awake_con h3) (And.intro qr (rfl : ([] : List (Nat × O)) = [])))) (by kernel_rfl)
  | p1 r1 r2 r3 h1 h2 h3 h4 h5 =>
    have qr : ((.t (boo (r3))) : A) = (.t (boo (r3))) := by first | rfl | (simp only [List.map_append, List.map_cons, List.map_nil, List.map_set, List.map_take, List.map_drop, List.map_replicate]; done)
    exact Con_run Try.call5 Try.func5 [] [.reg 1 [] [(1, .call [] (.t (.v (.int .i64 (r1)))) []), (3, .dir false), (5, .call [] (.t (.v (.int .i64 (r2)))) []), (8, .dir true)], .reg 2 [] [(0, .call [] (.t (boo (r3))) [])]] (by kernel_rfl) (And.intro (And.intro (lombardref10_Basket_con h1) (And.intro (bne_eq_false_iff_eq.2 h2) (And.intro (lombardref10_Basket_con h3) (bne_iff_ne.2 h4)))) (And.intro (lombardlaw14_awake_con h5) (And.intro qr (rfl : ([] : List (Nat × O)) = [])))) (by kernel_rfl)
  | p2 r1 r2 r3 h1 h2 h3 h4 h5 h6 =>
    have qr : ((.t (boo (r3))) : A) = (.t (boo (r3))) := by first | rfl | (simp only [List.map_append, List.map_cons, List.map_nil, List.map_set, List.map_take, List.map_drop, List.map_replicate]; done)
    exact Con_run Try.call5 Try.func5 [] [.reg 1 [] [(1, .call [] (.t (.v (.int .i64 (r1)))) []), (3, .dir false), (5, .call [] (.t (.v (.int .i64 (r2)))) []), (8, .dir false), (13, .dir true)], .reg 2 [] [(0, .call [] (.t (boo (r3))) [])]] (by kernel_rfl) (And.intro (And.intro (lombardref10_Basket_con h1) (And.intro (bne_eq_false_iff_eq.2 h2) (And.intro (lombardref10_Basket_con h3) (And.intro (bne_eq_false_iff_eq.2 h4) (decide_eq_true h5))))) (And.intro (lombardlaw14_awake_con h6) (And.intro qr (rfl : ([] : List (Nat × O)) = [])))) (by kernel_rfl)
  | p3 r1 r2 r3 h1 h2 h3 h4 h5 h6 h7 =>
    have qr : ((.t (boo (r3))) : A) = (.t (boo (r3))) := by first | rfl | (simp only [List.map_append, List.map_cons, List.map_nil, List.map_set, List.map_take, List.map_drop, List.map_replicate]; done)
    exact Con_run Try.call5 Try.func5 [] [.reg 1 [] [(1, .call [] (.t (.v (.int .i64 (r1)))) []), (3, .dir false), (5, .call [] (.t (.v (.int .i64 (r2)))) []), (8, .dir false), (13, .dir false)], .dir 26 true, .reg 2 [] [(0, .call [] (.t (boo (r3))) [])]] (by kernel_rfl) (And.intro (And.intro (lombardref10_Basket_con h1) (And.intro (bne_eq_false_iff_eq.2 h2) (And.intro (lombardref10_Basket_con h3) (And.intro (bne_eq_false_iff_eq.2 h4) (decide_eq_false h5))))) (And.intro (decide_eq_true h6) (And.intro (lombardlaw14_awake_con h7) (And.intro qr (rfl : ([] : List (Nat × O)) = []))))) (by kernel_rfl)
  | p4 r1 r2 r3 r4 r5 h1 h2 h3 h4 h5 h6 h7 h8 h9 h10 h11 =>
    have qr : ((.t (boo (r5))) : A) = (.t (boo (r5))) := by first | rfl | (simp only [List.map_append, List.map_cons, List.map_nil, List.map_set, List.map_take, List.map_drop, List.map_replicate]; done)
    exact Con_run Try.call5 Try.func5 [] [.reg 1 [] [(1, .call [] (.t (.v (.int .i64 (r1)))) []), (3, .dir false), (5, .call [] (.t (.v (.int .i64 (r2)))) []), (8, .dir false), (13, .dir false)], .dir 26 false, .reg 3 [] [(2, .call [] (.t (boo (r3))) []), (4, .dir true), (20, .call [] (.t (boo (r4))) []), (22, .dir true), (23, .call [] (.t (boo (r5))) [])]] (by kernel_rfl) (And.intro (And.intro (lombardref10_Basket_con h1) (And.intro (bne_eq_false_iff_eq.2 h2) (And.intro (lombardref10_Basket_con h3) (And.intro (bne_eq_false_iff_eq.2 h4) (decide_eq_false h5))))) (And.intro (decide_eq_false h6) (And.intro (And.intro (basket_Within_con h7) (And.intro (congrArg Bool.not (h8)) (And.intro (basket_Within_con h9) (And.intro h10 (lombardlaw14_awake_con h11))))) (And.intro qr (rfl : ([] : List (Nat × O)) = []))))) (by kernel_rfl)
  | p5 r1 r2 r3 r4 h1 h2 h3 h4 h5 h6 h7 h8 h9 h10 =>
    have qr : ((.t (boo (false))) : A) = (.t (boo (false))) := by first | rfl | (simp only [List.map_append, List.map_cons, List.map_nil, List.map_set, List.map_take, List.map_drop, List.map_replicate]; done)
    exact Con_run Try.call5 Try.func5 [] [.reg 1 [] [(1, .call [] (.t (.v (.int .i64 (r1)))) []), (3, .dir false), (5, .call [] (.t (.v (.int .i64 (r2)))) []), (8, .dir false), (13, .dir false)], .dir 26 false, .reg 3 [] [(2, .call [] (.t (boo (r3))) []), (4, .dir true), (20, .call [] (.t (boo (r4))) []), (22, .dir false)]] (by kernel_rfl) (And.intro (And.intro (lombardref10_Basket_con h1) (And.intro (bne_eq_false_iff_eq.2 h2) (And.intro (lombardref10_Basket_con h3) (And.intro (bne_eq_false_iff_eq.2 h4) (decide_eq_false h5))))) (And.intro (decide_eq_false h6) (And.intro (And.intro (basket_Within_con h7) (And.intro (congrArg Bool.not (h8)) (And.intro (basket_Within_con h9) h10))) (And.intro qr (rfl : ([] : List (Nat × O)) = []))))) (by kernel_rfl)
  | p6 r1 r2 r3 r4 r5 r6 h1 h2 h3 h4 h5 h6 h7 h8 h9 h10 h11 h12 h13 =>
    have qr : ((.t (boo (r6))) : A) = (.t (boo (r6))) := by first | rfl | (simp only [List.map_append, List.map_cons, List.map_nil, List.map_set, List.map_take, List.map_drop, List.map_replicate]; done)
    exact Con_run Try.call5 Try.func5 [] [.reg 1 [] [(1, .call [] (.t (.v (.int .i64 (r1)))) []), (3, .dir false), (5, .call [] (.t (.v (.int .i64 (r2)))) []), (8, .dir false), (13, .dir false)], .dir 26 false, .reg 3 [] [(2, .call [] (.t (boo (r3))) []), (4, .dir false), (8, .call [] (.t (boo (r4))) []), (11, .dir true), (20, .call [] (.t (boo (r5))) []), (22, .dir true), (23, .call [] (.t (boo (r6))) [])]] (by kernel_rfl) (And.intro (And.intro (lombardref10_Basket_con h1) (And.intro (bne_eq_false_iff_eq.2 h2) (And.intro (lombardref10_Basket_con h3) (And.intro (bne_eq_false_iff_eq.2 h4) (decide_eq_false h5))))) (And.intro (decide_eq_false h6) (And.intro (And.intro (basket_Within_con h7) (And.intro (congrArg Bool.not (h8)) (And.intro (basket_Fits_con h9) (And.intro (congrArg Bool.not (h10)) (And.intro (basket_Within_con h11) (And.intro h12 (lombardlaw14_awake_con h13))))))) (And.intro qr (rfl : ([] : List (Nat × O)) = []))))) (by kernel_rfl)
  | p7 r1 r2 r3 r4 r5 h1 h2 h3 h4 h5 h6 h7 h8 h9 h10 h11 h12 =>
    have qr : ((.t (boo (false))) : A) = (.t (boo (false))) := by first | rfl | (simp only [List.map_append, List.map_cons, List.map_nil, List.map_set, List.map_take, List.map_drop, List.map_replicate]; done)
    exact Con_run Try.call5 Try.func5 [] [.reg 1 [] [(1, .call [] (.t (.v (.int .i64 (r1)))) []), (3, .dir false), (5, .call [] (.t (.v (.int .i64 (r2)))) []), (8, .dir false), (13, .dir false)], .dir 26 false, .reg 3 [] [(2, .call [] (.t (boo (r3))) []), (4, .dir false), (8, .call [] (.t (boo (r4))) []), (11, .dir true), (20, .call [] (.t (boo (r5))) []), (22, .dir false)]] (by kernel_rfl) (And.intro (And.intro (lombardref10_Basket_con h1) (And.intro (bne_eq_false_iff_eq.2 h2) (And.intro (lombardref10_Basket_con h3) (And.intro (bne_eq_false_iff_eq.2 h4) (decide_eq_false h5))))) (And.intro (decide_eq_false h6) (And.intro (And.intro (basket_Within_con h7) (And.intro (congrArg Bool.not (h8)) (And.intro (basket_Fits_con h9) (And.intro (congrArg Bool.not (h10)) (And.intro (basket_Within_con h11) h12))))) (And.intro qr (rfl : ([] : List (Nat × O)) = []))))) (by kernel_rfl)
  | p8 r1 r2 r3 r4 r5 r6 r7 h1 h2 h3 h4 h5 h6 h7 h8 h9 h10 h11 h12 h13 h14 h15 =>
    have qr : ((.t (boo (r7))) : A) = (.t (boo (r7))) := by first | rfl | (simp only [List.map_append, List.map_cons, List.map_nil, List.map_set, List.map_take, List.map_drop, List.map_replicate]; done)
    exact Con_run Try.call5 Try.func5 [] [.reg 1 [] [(1, .call [] (.t (.v (.int .i64 (r1)))) []), (3, .dir false), (5, .call [] (.t (.v (.int .i64 (r2)))) []), (8, .dir false), (13, .dir false)], .dir 26 false, .reg 3 [] [(2, .call [] (.t (boo (r3))) []), (4, .dir false), (8, .call [] (.t (boo (r4))) []), (11, .dir false), (15, .call [] (.t (boo (r5))) []), (17, .dir true), (20, .call [] (.t (boo (r6))) []), (22, .dir true), (23, .call [] (.t (boo (r7))) [])]] (by kernel_rfl) (And.intro (And.intro (lombardref10_Basket_con h1) (And.intro (bne_eq_false_iff_eq.2 h2) (And.intro (lombardref10_Basket_con h3) (And.intro (bne_eq_false_iff_eq.2 h4) (decide_eq_false h5))))) (And.intro (decide_eq_false h6) (And.intro (And.intro (basket_Within_con h7) (And.intro (congrArg Bool.not (h8)) (And.intro (basket_Fits_con h9) (And.intro (congrArg Bool.not (h10)) (And.intro (basket_Fits_con h11) (And.intro h12 (And.intro (basket_Within_con h13) (And.intro h14 (lombardlaw14_awake_con h15))))))))) (And.intro qr (rfl : ([] : List (Nat × O)) = []))))) (by kernel_rfl)
  | p9 r1 r2 r3 r4 r5 r6 h1 h2 h3 h4 h5 h6 h7 h8 h9 h10 h11 h12 h13 h14 =>
    have qr : ((.t (boo (false))) : A) = (.t (boo (false))) := by first | rfl | (simp only [List.map_append, List.map_cons, List.map_nil, List.map_set, List.map_take, List.map_drop, List.map_replicate]; done)
    exact Con_run Try.call5 Try.func5 [] [.reg 1 [] [(1, .call [] (.t (.v (.int .i64 (r1)))) []), (3, .dir false), (5, .call [] (.t (.v (.int .i64 (r2)))) []), (8, .dir false), (13, .dir false)], .dir 26 false, .reg 3 [] [(2, .call [] (.t (boo (r3))) []), (4, .dir false), (8, .call [] (.t (boo (r4))) []), (11, .dir false), (15, .call [] (.t (boo (r5))) []), (17, .dir true), (20, .call [] (.t (boo (r6))) []), (22, .dir false)]] (by kernel_rfl) (And.intro (And.intro (lombardref10_Basket_con h1) (And.intro (bne_eq_false_iff_eq.2 h2) (And.intro (lombardref10_Basket_con h3) (And.intro (bne_eq_false_iff_eq.2 h4) (decide_eq_false h5))))) (And.intro (decide_eq_false h6) (And.intro (And.intro (basket_Within_con h7) (And.intro (congrArg Bool.not (h8)) (And.intro (basket_Fits_con h9) (And.intro (congrArg Bool.not (h10)) (And.intro (basket_Fits_con h11) (And.intro h12 (And.intro (basket_Within_con h13) h14))))))) (And.intro qr (rfl : ([] : List (Nat × O)) = []))))) (by kernel_rfl)
  | p10 r1 r2 r3 r4 r5 h1 h2 h3 h4 h5 h6 h7 h8 h9 h10 h11 h12 =>
    have qr : ((.t (boo (false))) : A) = (.t (boo (false))) := by first | rfl | (simp only [List.map_append, List.map_cons, List.map_nil, List.map_set, List.map_take, List.map_drop, List.map_replicate]; done)
    exact Con_run Try.call5 Try.func5 [] [.reg 1 [] [(1, .call [] (.t (.v (.int .i64 (r1)))) []), (3, .dir false), (5, .call [] (.t (.v (.int .i64 (r2)))) []), (8, .dir false), (13, .dir false)], .dir 26 false, .reg 3 [] [(2, .call [] (.t (boo (r3))) []), (4, .dir false), (8, .call [] (.t (boo (r4))) []), (11, .dir false), (15, .call [] (.t (boo (r5))) []), (17, .dir false)]] (by kernel_rfl) (And.intro (And.intro (lombardref10_Basket_con h1) (And.intro (bne_eq_false_iff_eq.2 h2) (And.intro (lombardref10_Basket_con h3) (And.intro (bne_eq_false_iff_eq.2 h4) (decide_eq_false h5))))) (And.intro (decide_eq_false h6) (And.intro (And.intro (basket_Within_con h7) (And.intro (congrArg Bool.not (h8)) (And.intro (basket_Fits_con h9) (And.intro (congrArg Bool.not (h10)) (And.intro (basket_Fits_con h11) h12))))) (And.intro qr (rfl : ([] : List (Nat × O)) = []))))) (by kernel_rfl)
def lombardlaw14_BasketWithin_wp (a0 : api_Basket) (a1 : api_Basket) (a2 : api_Asset) (a3 : Int) (Q : Bool → Prop) : Prop := ∃ r1 : Int, (lombardref10_Basket a0 r1) ∧ ((if r1 = 0 then (∃ r2 : Int, (lombardref10_Basket a1 r2) ∧ ((if r2 = 0 then ((if a2.Maturity < 0 then (∃ r3 : Bool, (lombardlaw14_awake r3) ∧ (Q r3)) else ((if a2.Maturity > 200000 then (∃ r3 : Bool, (lombardlaw14_awake r3) ∧ (Q r3)) else (∃ r3 : Bool, (basket_Within a0 a1 r3) ∧ ((if r3 = true then (∃ r4 : Bool, (basket_Fits a0 a2 a3 r4) ∧ ((if r4 = true then (∃ r5 : Bool, (basket_Fits a1 a2 a3 r5) ∧ ((if r5 = true then (∃ r6 : Bool, (basket_Within a0 a0 r6) ∧ ((if r6 = true then (∃ r7 : Bool, (lombardlaw14_awake r7) ∧ (Q r7)) else (Q false)))) else (Q false)))) else (∃ r5 : Bool, (basket_Within a0 a0 r5) ∧ ((if r5 = true then (∃ r6 : Bool, (lombardlaw14_awake r6) ∧ (Q r6)) else (Q false))))))) else (∃ r4 : Bool, (basket_Within a0 a0 r4) ∧ ((if r4 = true then (∃ r5 : Bool, (lombardlaw14_awake r5) ∧ (Q r5)) else (Q false))))))))))) else (∃ r3 : Bool, (lombardlaw14_awake r3) ∧ (Q r3))))) else (∃ r2 : Bool, (lombardlaw14_awake r2) ∧ (Q r2))))
theorem lombardlaw14_BasketWithin_of {a0 : api_Basket} {a1 : api_Basket} {a2 : api_Asset} {a3 : Int} {Q : Bool → Prop} (h : lombardlaw14_BasketWithin_wp a0 a1 a2 a3 Q) : ∃ (r0_ : Bool), lombardlaw14_BasketWithin a0 a1 a2 a3 r0_ ∧ Q r0_ := by
  unfold lombardlaw14_BasketWithin_wp at h
  obtain ⟨r1, h⟩ := h
  obtain ⟨h1, h⟩ := h
  by_cases hc : r1 = 0
  · have h2 : r1 = 0 := hc
    replace h := ifP hc h
    obtain ⟨r2, h⟩ := h
    obtain ⟨h3, h⟩ := h
    by_cases hc : r2 = 0
    · have h4 : r2 = 0 := hc
      replace h := ifP hc h
      by_cases hc : a2.Maturity < 0
      · have h5 : a2.Maturity < 0 := hc
        replace h := ifP hc h
        obtain ⟨r3, h⟩ := h
        obtain ⟨h6, h⟩ := h
        exact ⟨_, .p2 r1 r2 r3 h1 h2 h3 h4 h5 h6, h⟩
      · have h5 : ¬ (a2.Maturity < 0) := hc
        replace h := ifN hc h
        by_cases hc : a2.Maturity > 200000
        · have h6 : a2.Maturity > 200000 := hc
          replace h := ifP hc h
          obtain ⟨r3, h⟩ := h
          obtain ⟨h7, h⟩ := h
          exact ⟨_, .p3 r1 r2 r3 h1 h2 h3 h4 h5 h6 h7, h⟩
        · have h6 : ¬ (a2.Maturity > 200000) := hc
          replace h := ifN hc h
          obtain ⟨r3, h⟩ := h
          obtain ⟨h7, h⟩ := h
          by_cases hc : r3 = true
          · have h8 : r3 = true := hc
            replace h := ifP hc h
            obtain ⟨r4, h⟩ := h
            obtain ⟨h9, h⟩ := h
            by_cases hc : r4 = true
            · have h10 : r4 = true := hc
              replace h := ifP hc h
              obtain ⟨r5, h⟩ := h
              obtain ⟨h11, h⟩ := h
              by_cases hc : r5 = true
              · have h12 : r5 = true := hc
                replace h := ifP hc h
                obtain ⟨r6, h⟩ := h
                obtain ⟨h13, h⟩ := h
                by_cases hc : r6 = true
                · have h14 : r6 = true := hc
                  replace h := ifP hc h
                  obtain ⟨r7, h⟩ := h
                  obtain ⟨h15, h⟩ := h
                  exact ⟨_, .p8 r1 r2 r3 r4 r5 r6 r7 h1 h2 h3 h4 h5 h6 h7 h8 h9 h10 h11 h12 h13 h14 h15, h⟩
                · have h14 : r6 = false := bfalse hc
                  replace h := ifN hc h
                  exact ⟨_, .p9 r1 r2 r3 r4 r5 r6 h1 h2 h3 h4 h5 h6 h7 h8 h9 h10 h11 h12 h13 h14, h⟩
              · have h12 : r5 = false := bfalse hc
                replace h := ifN hc h
                exact ⟨_, .p10 r1 r2 r3 r4 r5 h1 h2 h3 h4 h5 h6 h7 h8 h9 h10 h11 h12, h⟩
            · have h10 : r4 = false := bfalse hc
              replace h := ifN hc h
              obtain ⟨r5, h⟩ := h
              obtain ⟨h11, h⟩ := h
              by_cases hc : r5 = true
              · have h12 : r5 = true := hc
                replace h := ifP hc h
                obtain ⟨r6, h⟩ := h
                obtain ⟨h13, h⟩ := h
                exact ⟨_, .p6 r1 r2 r3 r4 r5 r6 h1 h2 h3 h4 h5 h6 h7 h8 h9 h10 h11 h12 h13, h⟩
              · have h12 : r5 = false := bfalse hc
                replace h := ifN hc h
                exact ⟨_, .p7 r1 r2 r3 r4 r5 h1 h2 h3 h4 h5 h6 h7 h8 h9 h10 h11 h12, h⟩
          · have h8 : r3 = false := bfalse hc
            replace h := ifN hc h
            obtain ⟨r4, h⟩ := h
            obtain ⟨h9, h⟩ := h
            by_cases hc : r4 = true
            · have h10 : r4 = true := hc
              replace h := ifP hc h
              obtain ⟨r5, h⟩ := h
              obtain ⟨h11, h⟩ := h
              exact ⟨_, .p4 r1 r2 r3 r4 r5 h1 h2 h3 h4 h5 h6 h7 h8 h9 h10 h11, h⟩
            · have h10 : r4 = false := bfalse hc
              replace h := ifN hc h
              exact ⟨_, .p5 r1 r2 r3 r4 h1 h2 h3 h4 h5 h6 h7 h8 h9 h10, h⟩
    · have h4 : r2 ≠ 0 := hc
      replace h := ifN hc h
      obtain ⟨r3, h⟩ := h
      obtain ⟨h5, h⟩ := h
      exact ⟨_, .p1 r1 r2 r3 h1 h2 h3 h4 h5, h⟩
  · have h2 : r1 ≠ 0 := hc
    replace h := ifN hc h
    obtain ⟨r2, h⟩ := h
    obtain ⟨h3, h⟩ := h
    exact ⟨_, .p0 r1 r2 h1 h2 h3, h⟩
-- done: 4,5,13,14,15,16,17,18,19,29,32,33,35,36,37,38,39,40,41,45,46,47,48,49,50,53
end Go.Proofs.Ytbhfedfkckddjaa.R
