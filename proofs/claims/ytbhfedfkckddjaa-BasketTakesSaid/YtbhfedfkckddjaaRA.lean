import Derived.Test.YtbhfedfkckddjaaAbW
import Derived.Test.YtbhfedfkckddjaaProg
open Go Go.Ab Go.Proofs
namespace Go.Proofs.Ytbhfedfkckddjaa.R
set_option linter.unusedVariables false
set_option linter.unusedSimpArgs false

structure api_Cut where
  Days : Int
  Rating : Int
  Cut : Int
def api_Cut.enc (x : api_Cut) : List T := [.v (.int .i64 x.Days), .v (.int .i64 x.Rating), .v (.int .i64 x.Cut)]
structure api_Basket where
  ID : Int
  Version : Int
  Currency : ByteArray
  Rating : Int
  Least : Int
  Most : Int
  Cuts : (List api_Cut)
  Issuer : Int
  Asset : Int
  Barred : (List Int)
def api_Basket.enc (x : api_Basket) : List T := [.v (.int .i64 x.ID), .v (.int .i64 x.Version), str x.Currency, .v (.int .i64 x.Rating), .v (.int .i64 x.Least), .v (.int .i64 x.Most), .sl 3 (x.Cuts.map api_Cut.enc), .v (.int .i64 x.Issuer), .v (.int .i64 x.Asset), .sl 1 (x.Barred.map (fun x => [.v (.int .i64 x)]))]
structure api_Asset where
  ISIN : ByteArray
  Issuer : Int
  Rating : Int
  Maturity : Int
  Currency : ByteArray
def api_Asset.enc (x : api_Asset) : List T := [str x.ISIN, .v (.int .i64 x.Issuer), .v (.int .i64 x.Rating), .v (.int .i64 x.Maturity), str x.Currency]
inductive lombardref10_in (a0 : Int) (a1 : Int) (a2 : Int) : Bool → Prop
  | p0 (h1 : a0 ≥ a1) : lombardref10_in a0 a1 a2 (decide (a0 ≤ a2))
  | p1 (h1 : ¬ (a0 ≥ a1)) : lombardref10_in a0 a1 a2 false
theorem lombardref10_in_con {a0 : Int} {a1 : Int} {a2 : Int} {r0_ : Bool} (h : lombardref10_in a0 a1 a2 r0_) : Con Try.prog 35 [(.t (.v (.int .i64 (a0)))), (.t (.v (.int .i64 (a1)))), (.t (.v (.int .i64 (a2))))] [] (fun r os => r = (.t (boo (r0_))) ∧ os = []) := by
  induction h with
  | p0 h1 =>
    have qr : ((.t (boo ((decide (a0 ≤ a2))))) : A) = (.t (boo (((decide (a0 ≤ a2)))))) := by first | rfl | (simp only [List.map_append, List.map_cons, List.map_nil, List.map_set, List.map_take, List.map_drop, List.map_replicate]; done)
    exact Con_run Try.call35 Try.func35 [] [.reg 1 [] [(3, .dir true)]] (by kernel_rfl) (And.intro (decide_eq_true h1) (And.intro qr (rfl : ([] : List (Nat × O)) = []))) (by kernel_rfl)
  | p1 h1 =>
    have qr : ((.t (boo (false))) : A) = (.t (boo (false))) := by first | rfl | (simp only [List.map_append, List.map_cons, List.map_nil, List.map_set, List.map_take, List.map_drop, List.map_replicate]; done)
    exact Con_run Try.call35 Try.func35 [] [.reg 1 [] [(3, .dir false)]] (by kernel_rfl) (And.intro (decide_eq_false h1) (And.intro qr (rfl : ([] : List (Nat × O)) = []))) (by kernel_rfl)
def lombardref10_in_wp (a0 : Int) (a1 : Int) (a2 : Int) (Q : Bool → Prop) : Prop := (if a0 ≥ a1 then (Q (decide (a0 ≤ a2))) else (Q false))
theorem lombardref10_in_of {a0 : Int} {a1 : Int} {a2 : Int} {Q : Bool → Prop} (h : lombardref10_in_wp a0 a1 a2 Q) : ∃ (r0_ : Bool), lombardref10_in a0 a1 a2 r0_ ∧ Q r0_ := by
  unfold lombardref10_in_wp at h
  by_cases hc : a0 ≥ a1
  · have h1 : a0 ≥ a1 := hc
    replace h := ifP hc h
    exact ⟨_, .p0 h1, h⟩
  · have h1 : ¬ (a0 ≥ a1) := hc
    replace h := ifN hc h
    exact ⟨_, .p1 h1, h⟩
inductive lombardref10_Amount (a0 : Int) : Bool → Prop
  | p0 (h1 : a0 ≥ 1) : lombardref10_Amount a0 (decide (a0 ≤ 1125899906842624))
  | p1 (h1 : ¬ (a0 ≥ 1)) : lombardref10_Amount a0 false
theorem lombardref10_Amount_con {a0 : Int} {r0_ : Bool} (h : lombardref10_Amount a0 r0_) : Con Try.prog 36 [(.t (.v (.int .i64 (a0))))] [] (fun r os => r = (.t (boo (r0_))) ∧ os = []) := by
  induction h with
  | p0 h1 =>
    have qr : ((.t (boo ((decide (a0 ≤ 1125899906842624))))) : A) = (.t (boo (((decide (a0 ≤ 1125899906842624)))))) := by first | rfl | (simp only [List.map_append, List.map_cons, List.map_nil, List.map_set, List.map_take, List.map_drop, List.map_replicate]; done)
    exact Con_run Try.call36 Try.func36 [] [.reg 1 [] [(2, .dir true)]] (by kernel_rfl) (And.intro (decide_eq_true h1) (And.intro qr (rfl : ([] : List (Nat × O)) = []))) (by kernel_rfl)
  | p1 h1 =>
    have qr : ((.t (boo (false))) : A) = (.t (boo (false))) := by first | rfl | (simp only [List.map_append, List.map_cons, List.map_nil, List.map_set, List.map_take, List.map_drop, List.map_replicate]; done)
    exact Con_run Try.call36 Try.func36 [] [.reg 1 [] [(2, .dir false)]] (by kernel_rfl) (And.intro (decide_eq_false h1) (And.intro qr (rfl : ([] : List (Nat × O)) = []))) (by kernel_rfl)
def lombardref10_Amount_wp (a0 : Int) (Q : Bool → Prop) : Prop := (if a0 ≥ 1 then (Q (decide (a0 ≤ 1125899906842624))) else (Q false))
theorem lombardref10_Amount_of {a0 : Int} {Q : Bool → Prop} (h : lombardref10_Amount_wp a0 Q) : ∃ (r0_ : Bool), lombardref10_Amount a0 r0_ ∧ Q r0_ := by
  unfold lombardref10_Amount_wp at h
  by_cases hc : a0 ≥ 1
  · have h1 : a0 ≥ 1 := hc
    replace h := ifP hc h
    exact ⟨_, .p0 h1, h⟩
  · have h1 : ¬ (a0 ≥ 1) := hc
    replace h := ifN hc h
    exact ⟨_, .p1 h1, h⟩
inductive lombardref05_Currency_O0 where
  | e0
  | e1
inductive lombardref05_Currency_L0 (a0 : ByteArray) : Int → lombardref05_Currency_O0 → Prop
  | p0 (s0_0 : Int) (h1 : s0_0 < 32) (h2 : InR ((s0_0 + 3))) (h3 : Cut (s0_0) ((s0_0 + 3)) ((⟨#[69, 85, 82, 32, 85, 83, 68, 32, 71, 66, 80, 32, 67, 72, 70, 32, 74, 80, 89, 32, 83, 69, 75, 32, 78, 79, 75, 32, 68, 75, 75, 32]⟩ : ByteArray).size : Int)) (h4 : ((⟨#[69, 85, 82, 32, 85, 83, 68, 32, 71, 66, 80, 32, 67, 72, 70, 32, 74, 80, 89, 32, 83, 69, 75, 32, 78, 79, 75, 32, 68, 75, 75, 32]⟩ : ByteArray).extract (s0_0).toNat ((s0_0 + 3)).toNat) = a0) : lombardref05_Currency_L0 a0 s0_0 (.e0)
  | p1 (s0_0 : Int) {o : lombardref05_Currency_O0} (h1 : s0_0 < 32) (h2 : InR ((s0_0 + 3))) (h3 : Cut (s0_0) ((s0_0 + 3)) ((⟨#[69, 85, 82, 32, 85, 83, 68, 32, 71, 66, 80, 32, 67, 72, 70, 32, 74, 80, 89, 32, 83, 69, 75, 32, 78, 79, 75, 32, 68, 75, 75, 32]⟩ : ByteArray).size : Int)) (h4 : ((⟨#[69, 85, 82, 32, 85, 83, 68, 32, 71, 66, 80, 32, 67, 72, 70, 32, 74, 80, 89, 32, 83, 69, 75, 32, 78, 79, 75, 32, 68, 75, 75, 32]⟩ : ByteArray).extract (s0_0).toNat ((s0_0 + 3)).toNat) ≠ a0) (h5 : InR ((s0_0 + 4))) (hr : lombardref05_Currency_L0 a0 (s0_0 + 4) o) : lombardref05_Currency_L0 a0 s0_0 o
  | p2 (s0_0 : Int) (h1 : ¬ (s0_0 < 32)) : lombardref05_Currency_L0 a0 s0_0 (.e1)
inductive lombardref05_Currency (a0 : ByteArray) : Bool → Prop
  | p0 (h1 : lombardref05_Currency_L0 a0 0 (.e0)) : lombardref05_Currency a0 true
  | p1 (h1 : lombardref05_Currency_L0 a0 0 (.e1)) : lombardref05_Currency a0 false
def lombardref05_Currency_s0 (a0 : ByteArray) (s0_0 : Int) : St := mkSt [(0, (.t (str (a0)))), (3, (.t (.v (.int .i64 (s0_0)))))] [] []
def lombardref05_Currency_oe0 : lombardref05_Currency_O0 → Exit
  | .e0 => .ret
  | .e1 => .exit 0
def lombardref05_Currency_op0 : lombardref05_Currency_O0 → List Prep
  | .e0 => [.keep [2] []]
  | .e1 => [.keep [] []]
def lombardref05_Currency_os0 (a0 : ByteArray) : lombardref05_Currency_O0 → St
  | .e0 => mkSt [(2, (.t (boo (true))))] [] []
  | .e1 => mkSt [] [] []
theorem lombardref05_Currency_l0 {a0 : ByteArray} {s0_0 : Int} {o : lombardref05_Currency_O0} (h : lombardref05_Currency_L0 a0 s0_0 o) : LW Try.prog 14 (loopAt Try.f37 0) (At (lombardref05_Currency_oe0 o) (lombardref05_Currency_op0 o) (lombardref05_Currency_os0 a0 o)) (lombardref05_Currency_s0 a0 s0_0) := by
  induction h with
  | p0 s0_0 h1 h2 h3 h4 =>
    have qe : mkSt [(2, (.t (boo (true))))] [] [] = lombardref05_Currency_os0 a0 (.e0) := by first | rfl | (simp only [lombardref05_Currency_os0, List.map_append, List.map_cons, List.map_nil, List.map_set, List.map_take, List.map_drop, List.map_replicate]; done)
    exact LW_run [.dir 5 true, .reg 4 [] [(2, .nw), (3, .cut (s0_0).toNat (((s0_0 + 3)).toNat))], .dir 13 true] [] (And.intro (decide_eq_true h1) (And.intro (And.intro h2 (cutSlh h3)) (And.intro (strEq_true h4) (And.intro (rfl : (.ret : Exit) = .ret) qe)))) (by kernel_rfl)
  | p1 s0_0 h1 h2 h3 h4 h5 hr ih =>
    (try simp only [lombardref05_Currency_s0, List.map_append, List.map_cons, List.map_nil, List.map_set, List.map_take, List.map_drop, List.map_replicate] at ih)
    exact LW_run [.dir 5 true, .reg 4 [] [(2, .nw), (3, .cut (s0_0).toNat (((s0_0 + 3)).toNat))], .dir 13 false, .reg 3 [] [(1, .nw)]] [.keep [0, 3] []] (And.intro (decide_eq_true h1) (And.intro (And.intro h2 (cutSlh h3)) (And.intro (strEq_false h4) (And.intro h5 ih)))) (by kernel_rfl)
  | p2 s0_0 h1 =>
    have qe : mkSt [] [] [] = lombardref05_Currency_os0 a0 (.e1) := by first | rfl | (simp only [lombardref05_Currency_os0, List.map_append, List.map_cons, List.map_nil, List.map_set, List.map_take, List.map_drop, List.map_replicate]; done)
    exact LW_run [.dir 5 false] [] (And.intro (decide_eq_false h1) (And.intro (rfl : ((.exit 0) : Exit) = (.exit 0)) qe)) (by kernel_rfl)
def lombardref05_Currency_w0 (a0 : ByteArray) (s0_0 : Int) (Q : lombardref05_Currency_O0 → Prop) : Prop := (if s0_0 < 32 then ((InR ((s0_0 + 3))) ∧ ((Cut (s0_0) ((s0_0 + 3)) ((⟨#[69, 85, 82, 32, 85, 83, 68, 32, 71, 66, 80, 32, 67, 72, 70, 32, 74, 80, 89, 32, 83, 69, 75, 32, 78, 79, 75, 32, 68, 75, 75, 32]⟩ : ByteArray).size : Int)) ∧ ((if ((⟨#[69, 85, 82, 32, 85, 83, 68, 32, 71, 66, 80, 32, 67, 72, 70, 32, 74, 80, 89, 32, 83, 69, 75, 32, 78, 79, 75, 32, 68, 75, 75, 32]⟩ : ByteArray).extract (s0_0).toNat ((s0_0 + 3)).toNat) = a0 then (Q (.e0)) else ((InR ((s0_0 + 4))) ∧ (∃ o, lombardref05_Currency_L0 a0 (s0_0 + 4) o ∧ Q o)))))) else (Q (.e1)))
theorem lombardref05_Currency_of0 {a0 : ByteArray} {s0_0 : Int} {Q : lombardref05_Currency_O0 → Prop} (h : lombardref05_Currency_w0 a0 s0_0 Q) : ∃ o, lombardref05_Currency_L0 a0 s0_0 o ∧ Q o := by
  unfold lombardref05_Currency_w0 at h
  by_cases hc : s0_0 < 32
  · have h1 : s0_0 < 32 := hc
    replace h := ifP hc h
    obtain ⟨h2, h⟩ := h
    obtain ⟨h3, h⟩ := h
    by_cases hc : ((⟨#[69, 85, 82, 32, 85, 83, 68, 32, 71, 66, 80, 32, 67, 72, 70, 32, 74, 80, 89, 32, 83, 69, 75, 32, 78, 79, 75, 32, 68, 75, 75, 32]⟩ : ByteArray).extract (s0_0).toNat ((s0_0 + 3)).toNat) = a0
    · have h4 : ((⟨#[69, 85, 82, 32, 85, 83, 68, 32, 71, 66, 80, 32, 67, 72, 70, 32, 74, 80, 89, 32, 83, 69, 75, 32, 78, 79, 75, 32, 68, 75, 75, 32]⟩ : ByteArray).extract (s0_0).toNat ((s0_0 + 3)).toNat) = a0 := hc
      replace h := ifP hc h
      exact ⟨_, .p0 s0_0 h1 h2 h3 h4, h⟩
    · have h4 : ((⟨#[69, 85, 82, 32, 85, 83, 68, 32, 71, 66, 80, 32, 67, 72, 70, 32, 74, 80, 89, 32, 83, 69, 75, 32, 78, 79, 75, 32, 68, 75, 75, 32]⟩ : ByteArray).extract (s0_0).toNat ((s0_0 + 3)).toNat) ≠ a0 := hc
      replace h := ifN hc h
      obtain ⟨h5, h⟩ := h
      obtain ⟨o, hr, h⟩ := h; exact ⟨o, .p1 s0_0 h1 h2 h3 h4 h5 hr, h⟩
  · have h1 : ¬ (s0_0 < 32) := hc
    replace h := ifN hc h
    exact ⟨_, .p2 s0_0 h1, h⟩
theorem lombardref05_Currency_con {a0 : ByteArray} {r0_ : Bool} (h : lombardref05_Currency a0 r0_) : Con Try.prog 37 [(.t (str (a0)))] [] (fun r os => r = (.t (boo (r0_))) ∧ os = []) := by
  induction h with
  | p0 h1 =>
    have q1 := lombardref05_Currency_l0 h1
    (try simp only [lombardref05_Currency_s0, List.map_append, List.map_cons, List.map_nil, List.map_set, List.map_take, List.map_drop, List.map_replicate] at q1)
    have qr : ((.t (boo (true))) : A) = (.t (boo (true))) := by first | rfl | (simp only [List.map_append, List.map_cons, List.map_nil, List.map_set, List.map_take, List.map_drop, List.map_replicate]; done)
    exact Con_run Try.call37 Try.func37 [] [.blk 0 [.keep [0, 3] []], .loop .ret [.keep [2] []] (lombardref05_Currency_os0 a0 (.e0))] (by kernel_rfl) (And.intro q1 (And.intro qr (rfl : ([] : List (Nat × O)) = []))) (by kernel_rfl)
  | p1 h1 =>
    have q1 := lombardref05_Currency_l0 h1
    (try simp only [lombardref05_Currency_s0, List.map_append, List.map_cons, List.map_nil, List.map_set, List.map_take, List.map_drop, List.map_replicate] at q1)
    have qr : ((.t (boo (false))) : A) = (.t (boo (false))) := by first | rfl | (simp only [List.map_append, List.map_cons, List.map_nil, List.map_set, List.map_take, List.map_drop, List.map_replicate]; done)
    exact Con_run Try.call37 Try.func37 [] [.blk 0 [.keep [0, 3] []], .loop (.exit 0) [.keep [] []] (lombardref05_Currency_os0 a0 (.e1))] (by kernel_rfl) (And.intro q1 (And.intro qr (rfl : ([] : List (Nat × O)) = []))) (by kernel_rfl)
def lombardref05_Currency_wp (a0 : ByteArray) (Q : Bool → Prop) : Prop := ∃ o, lombardref05_Currency_L0 a0 0 o ∧ (match o with | .e0 => (Q true) | .e1 => (Q false))
theorem lombardref05_Currency_of {a0 : ByteArray} {Q : Bool → Prop} (h : lombardref05_Currency_wp a0 Q) : ∃ (r0_ : Bool), lombardref05_Currency a0 r0_ ∧ Q r0_ := by
  unfold lombardref05_Currency_wp at h
  obtain ⟨o, hl, h⟩ := h
  cases o with
  | e0 =>
    have h1 := hl
    exact ⟨_, .p0 h1, h⟩
  | e1 =>
    have h1 := hl
    exact ⟨_, .p1 h1, h⟩
inductive lombardref10_Basket_O1 where
  | e0
  | e1
inductive lombardref10_Basket_L1 (a0 : api_Basket) : Int → lombardref10_Basket_O1 → Prop
  | p0 (s1_0 : Int) (xb1 : Int) (rb2 : Bool) (h1 : s1_0 < (lenM (fun x => [.v (.int .i64 x)]) a0.Barred)) (h2 : 0 ≤ s1_0) (h3 : a0.Barred[(s1_0).toNat]? = some xb1) (h4 : lombardref10_in xb1 0 9999 rb2) (h5 : rb2 = false) : lombardref10_Basket_L1 a0 s1_0 (.e0)
  | p1 (s1_0 : Int) (xb1 : Int) (rb2 : Bool) (xb3 : Int) (h1 : s1_0 < (lenM (fun x => [.v (.int .i64 x)]) a0.Barred)) (h2 : 0 ≤ s1_0) (h3 : a0.Barred[(s1_0).toNat]? = some xb1) (h4 : lombardref10_in xb1 0 9999 rb2) (h5 : rb2 = true) (h6 : s1_0 > 0) (h7 : InR ((s1_0 - 1))) (h8 : 0 ≤ (s1_0 - 1)) (h9 : a0.Barred[((s1_0 - 1)).toNat]? = some xb3) (h10 : xb1 ≤ xb3) : lombardref10_Basket_L1 a0 s1_0 (.e0)
  | p2 (s1_0 : Int) (xb1 : Int) (rb2 : Bool) (xb3 : Int) {o : lombardref10_Basket_O1} (h1 : s1_0 < (lenM (fun x => [.v (.int .i64 x)]) a0.Barred)) (h2 : 0 ≤ s1_0) (h3 : a0.Barred[(s1_0).toNat]? = some xb1) (h4 : lombardref10_in xb1 0 9999 rb2) (h5 : rb2 = true) (h6 : s1_0 > 0) (h7 : InR ((s1_0 - 1))) (h8 : 0 ≤ (s1_0 - 1)) (h9 : a0.Barred[((s1_0 - 1)).toNat]? = some xb3) (h10 : ¬ (xb1 ≤ xb3)) (h11 : InR ((s1_0 + 1))) (hr : lombardref10_Basket_L1 a0 (s1_0 + 1) o) : lombardref10_Basket_L1 a0 s1_0 o
  | p3 (s1_0 : Int) (xb1 : Int) (rb2 : Bool) {o : lombardref10_Basket_O1} (h1 : s1_0 < (lenM (fun x => [.v (.int .i64 x)]) a0.Barred)) (h2 : 0 ≤ s1_0) (h3 : a0.Barred[(s1_0).toNat]? = some xb1) (h4 : lombardref10_in xb1 0 9999 rb2) (h5 : rb2 = true) (h6 : ¬ (s1_0 > 0)) (h7 : InR ((s1_0 + 1))) (hr : lombardref10_Basket_L1 a0 (s1_0 + 1) o) : lombardref10_Basket_L1 a0 s1_0 o
  | p4 (s1_0 : Int) (h1 : ¬ (s1_0 < (lenM (fun x => [.v (.int .i64 x)]) a0.Barred))) : lombardref10_Basket_L1 a0 s1_0 (.e1)
inductive lombardref10_Basket_O0 where
  | e0
  | e1
inductive lombardref10_Basket_L0 (a0 : api_Basket) : Int → lombardref10_Basket_O0 → Prop
  | p0 (s0_0 : Int) (xa1 : api_Cut) (ra2 : Bool) (h1 : s0_0 < (lenM api_Cut.enc a0.Cuts)) (h2 : 0 ≤ s0_0) (h3 : a0.Cuts[(s0_0).toNat]? = some xa1) (h4 : lombardref10_in xa1.Days 0 200000 ra2) (h5 : ra2 = false) : lombardref10_Basket_L0 a0 s0_0 (.e0)
  | p1 (s0_0 : Int) (xa1 : api_Cut) (ra2 : Bool) (ra3 : Bool) (h1 : s0_0 < (lenM api_Cut.enc a0.Cuts)) (h2 : 0 ≤ s0_0) (h3 : a0.Cuts[(s0_0).toNat]? = some xa1) (h4 : lombardref10_in xa1.Days 0 200000 ra2) (h5 : ra2 = true) (h6 : lombardref10_in xa1.Rating 0 20 ra3) (h7 : ra3 = false) : lombardref10_Basket_L0 a0 s0_0 (.e0)
  | p2 (s0_0 : Int) (xa1 : api_Cut) (ra2 : Bool) (ra3 : Bool) (ra4 : Bool) (h1 : s0_0 < (lenM api_Cut.enc a0.Cuts)) (h2 : 0 ≤ s0_0) (h3 : a0.Cuts[(s0_0).toNat]? = some xa1) (h4 : lombardref10_in xa1.Days 0 200000 ra2) (h5 : ra2 = true) (h6 : lombardref10_in xa1.Rating 0 20 ra3) (h7 : ra3 = true) (h8 : lombardref10_in xa1.Cut 0 999999 ra4) (h9 : ra4 = false) : lombardref10_Basket_L0 a0 s0_0 (.e0)
  | p3 (s0_0 : Int) (xa1 : api_Cut) (ra2 : Bool) (ra3 : Bool) (ra4 : Bool) {o : lombardref10_Basket_O0} (h1 : s0_0 < (lenM api_Cut.enc a0.Cuts)) (h2 : 0 ≤ s0_0) (h3 : a0.Cuts[(s0_0).toNat]? = some xa1) (h4 : lombardref10_in xa1.Days 0 200000 ra2) (h5 : ra2 = true) (h6 : lombardref10_in xa1.Rating 0 20 ra3) (h7 : ra3 = true) (h8 : lombardref10_in xa1.Cut 0 999999 ra4) (h9 : ra4 = true) (h10 : InR ((s0_0 + 1))) (hr : lombardref10_Basket_L0 a0 (s0_0 + 1) o) : lombardref10_Basket_L0 a0 s0_0 o
  | p4 (s0_0 : Int) (h1 : ¬ (s0_0 < (lenM api_Cut.enc a0.Cuts))) : lombardref10_Basket_L0 a0 s0_0 (.e1)
inductive lombardref10_Basket (a0 : api_Basket) : Int → Prop
  | p0 (r1 : Bool) (h1 : lombardref10_in a0.ID 1 64 r1) (h2 : r1 = false) : lombardref10_Basket a0 1
  | p1 (r1 : Bool) (r2 : Bool) (h1 : lombardref10_in a0.ID 1 64 r1) (h2 : r1 = true) (h3 : lombardref10_Amount a0.Version r2) (h4 : r2 = false) : lombardref10_Basket a0 1
  | p2 (r1 : Bool) (r2 : Bool) (r3 : Bool) (h1 : lombardref10_in a0.ID 1 64 r1) (h2 : r1 = true) (h3 : lombardref10_Amount a0.Version r2) (h4 : r2 = true) (h5 : lombardref10_in a0.Rating 0 20 r3) (h6 : r3 = false) : lombardref10_Basket a0 1
  | p3 (r1 : Bool) (r2 : Bool) (r3 : Bool) (r4 : Bool) (h1 : lombardref10_in a0.ID 1 64 r1) (h2 : r1 = true) (h3 : lombardref10_Amount a0.Version r2) (h4 : r2 = true) (h5 : lombardref10_in a0.Rating 0 20 r3) (h6 : r3 = true) (h7 : lombardref10_in a0.Issuer 0 1000000 r4) (h8 : r4 = false) : lombardref10_Basket a0 1
  | p4 (r1 : Bool) (r2 : Bool) (r3 : Bool) (r4 : Bool) (r5 : Bool) (h1 : lombardref10_in a0.ID 1 64 r1) (h2 : r1 = true) (h3 : lombardref10_Amount a0.Version r2) (h4 : r2 = true) (h5 : lombardref10_in a0.Rating 0 20 r3) (h6 : r3 = true) (h7 : lombardref10_in a0.Issuer 0 1000000 r4) (h8 : r4 = true) (h9 : lombardref10_in a0.Asset 0 1000000 r5) (h10 : r5 = false) : lombardref10_Basket a0 1
  | p5 (r1 : Bool) (r2 : Bool) (r3 : Bool) (r4 : Bool) (r5 : Bool) (r6 : Bool) (h1 : lombardref10_in a0.ID 1 64 r1) (h2 : r1 = true) (h3 : lombardref10_Amount a0.Version r2) (h4 : r2 = true) (h5 : lombardref10_in a0.Rating 0 20 r3) (h6 : r3 = true) (h7 : lombardref10_in a0.Issuer 0 1000000 r4) (h8 : r4 = true) (h9 : lombardref10_in a0.Asset 0 1000000 r5) (h10 : r5 = true) (h11 : lombardref10_in (lenM api_Cut.enc a0.Cuts) 1 64 r6) (h12 : r6 = false) : lombardref10_Basket a0 1
  | p6 (r1 : Bool) (r2 : Bool) (r3 : Bool) (r4 : Bool) (r5 : Bool) (r6 : Bool) (h1 : lombardref10_in a0.ID 1 64 r1) (h2 : r1 = true) (h3 : lombardref10_Amount a0.Version r2) (h4 : r2 = true) (h5 : lombardref10_in a0.Rating 0 20 r3) (h6 : r3 = true) (h7 : lombardref10_in a0.Issuer 0 1000000 r4) (h8 : r4 = true) (h9 : lombardref10_in a0.Asset 0 1000000 r5) (h10 : r5 = true) (h11 : lombardref10_in (lenM api_Cut.enc a0.Cuts) 1 64 r6) (h12 : r6 = true) (h13 : (lenM (fun x => [.v (.int .i64 x)]) a0.Barred) > 64) : lombardref10_Basket a0 1
  | p7 (r1 : Bool) (r2 : Bool) (r3 : Bool) (r4 : Bool) (r5 : Bool) (r6 : Bool) (h1 : lombardref10_in a0.ID 1 64 r1) (h2 : r1 = true) (h3 : lombardref10_Amount a0.Version r2) (h4 : r2 = true) (h5 : lombardref10_in a0.Rating 0 20 r3) (h6 : r3 = true) (h7 : lombardref10_in a0.Issuer 0 1000000 r4) (h8 : r4 = true) (h9 : lombardref10_in a0.Asset 0 1000000 r5) (h10 : r5 = true) (h11 : lombardref10_in (lenM api_Cut.enc a0.Cuts) 1 64 r6) (h12 : r6 = true) (h13 : ¬ ((lenM (fun x => [.v (.int .i64 x)]) a0.Barred) > 64)) (h14 : a0.Least < 0) : lombardref10_Basket a0 10
  | p8 (r1 : Bool) (r2 : Bool) (r3 : Bool) (r4 : Bool) (r5 : Bool) (r6 : Bool) (r7 : Bool) (h1 : lombardref10_in a0.ID 1 64 r1) (h2 : r1 = true) (h3 : lombardref10_Amount a0.Version r2) (h4 : r2 = true) (h5 : lombardref10_in a0.Rating 0 20 r3) (h6 : r3 = true) (h7 : lombardref10_in a0.Issuer 0 1000000 r4) (h8 : r4 = true) (h9 : lombardref10_in a0.Asset 0 1000000 r5) (h10 : r5 = true) (h11 : lombardref10_in (lenM api_Cut.enc a0.Cuts) 1 64 r6) (h12 : r6 = true) (h13 : ¬ ((lenM (fun x => [.v (.int .i64 x)]) a0.Barred) > 64)) (h14 : ¬ (a0.Least < 0)) (h15 : lombardref10_in a0.Most a0.Least 200000 r7) (h16 : r7 = false) : lombardref10_Basket a0 10
  | p9 (r1 : Bool) (r2 : Bool) (r3 : Bool) (r4 : Bool) (r5 : Bool) (r6 : Bool) (r7 : Bool) (r8 : Bool) (h1 : lombardref10_in a0.ID 1 64 r1) (h2 : r1 = true) (h3 : lombardref10_Amount a0.Version r2) (h4 : r2 = true) (h5 : lombardref10_in a0.Rating 0 20 r3) (h6 : r3 = true) (h7 : lombardref10_in a0.Issuer 0 1000000 r4) (h8 : r4 = true) (h9 : lombardref10_in a0.Asset 0 1000000 r5) (h10 : r5 = true) (h11 : lombardref10_in (lenM api_Cut.enc a0.Cuts) 1 64 r6) (h12 : r6 = true) (h13 : ¬ ((lenM (fun x => [.v (.int .i64 x)]) a0.Barred) > 64)) (h14 : ¬ (a0.Least < 0)) (h15 : lombardref10_in a0.Most a0.Least 200000 r7) (h16 : r7 = true) (h17 : lombardref05_Currency a0.Currency r8) (h18 : r8 = false) : lombardref10_Basket a0 11
  | p10 (r1 : Bool) (r2 : Bool) (r3 : Bool) (r4 : Bool) (r5 : Bool) (r6 : Bool) (r7 : Bool) (r8 : Bool) (h1 : lombardref10_in a0.ID 1 64 r1) (h2 : r1 = true) (h3 : lombardref10_Amount a0.Version r2) (h4 : r2 = true) (h5 : lombardref10_in a0.Rating 0 20 r3) (h6 : r3 = true) (h7 : lombardref10_in a0.Issuer 0 1000000 r4) (h8 : r4 = true) (h9 : lombardref10_in a0.Asset 0 1000000 r5) (h10 : r5 = true) (h11 : lombardref10_in (lenM api_Cut.enc a0.Cuts) 1 64 r6) (h12 : r6 = true) (h13 : ¬ ((lenM (fun x => [.v (.int .i64 x)]) a0.Barred) > 64)) (h14 : ¬ (a0.Least < 0)) (h15 : lombardref10_in a0.Most a0.Least 200000 r7) (h16 : r7 = true) (h17 : lombardref05_Currency a0.Currency r8) (h18 : r8 = true) (h19 : lombardref10_Basket_L0 a0 0 (.e0)) : lombardref10_Basket a0 1
  | p11 (r1 : Bool) (r2 : Bool) (r3 : Bool) (r4 : Bool) (r5 : Bool) (r6 : Bool) (r7 : Bool) (r8 : Bool) (h1 : lombardref10_in a0.ID 1 64 r1) (h2 : r1 = true) (h3 : lombardref10_Amount a0.Version r2) (h4 : r2 = true) (h5 : lombardref10_in a0.Rating 0 20 r3) (h6 : r3 = true) (h7 : lombardref10_in a0.Issuer 0 1000000 r4) (h8 : r4 = true) (h9 : lombardref10_in a0.Asset 0 1000000 r5) (h10 : r5 = true) (h11 : lombardref10_in (lenM api_Cut.enc a0.Cuts) 1 64 r6) (h12 : r6 = true) (h13 : ¬ ((lenM (fun x => [.v (.int .i64 x)]) a0.Barred) > 64)) (h14 : ¬ (a0.Least < 0)) (h15 : lombardref10_in a0.Most a0.Least 200000 r7) (h16 : r7 = true) (h17 : lombardref05_Currency a0.Currency r8) (h18 : r8 = true) (h19 : lombardref10_Basket_L0 a0 0 (.e1)) (h20 : lombardref10_Basket_L1 a0 0 (.e0)) : lombardref10_Basket a0 1
  | p12 (r1 : Bool) (r2 : Bool) (r3 : Bool) (r4 : Bool) (r5 : Bool) (r6 : Bool) (r7 : Bool) (r8 : Bool) (h1 : lombardref10_in a0.ID 1 64 r1) (h2 : r1 = true) (h3 : lombardref10_Amount a0.Version r2) (h4 : r2 = true) (h5 : lombardref10_in a0.Rating 0 20 r3) (h6 : r3 = true) (h7 : lombardref10_in a0.Issuer 0 1000000 r4) (h8 : r4 = true) (h9 : lombardref10_in a0.Asset 0 1000000 r5) (h10 : r5 = true) (h11 : lombardref10_in (lenM api_Cut.enc a0.Cuts) 1 64 r6) (h12 : r6 = true) (h13 : ¬ ((lenM (fun x => [.v (.int .i64 x)]) a0.Barred) > 64)) (h14 : ¬ (a0.Least < 0)) (h15 : lombardref10_in a0.Most a0.Least 200000 r7) (h16 : r7 = true) (h17 : lombardref05_Currency a0.Currency r8) (h18 : r8 = true) (h19 : lombardref10_Basket_L0 a0 0 (.e1)) (h20 : lombardref10_Basket_L1 a0 0 (.e1)) : lombardref10_Basket a0 0
def lombardref10_Basket_s1 (a0 : api_Basket) (s1_0 : Int) : St := mkSt [(1, (.at 1 0)), (4, (.t (.v (.int .i64 (s1_0)))))] [(1, (.box [(.t (.v (.int .i64 (a0.ID)))), (.t (.v (.int .i64 (a0.Version)))), (.t (str (a0.Currency))), (.t (.v (.int .i64 (a0.Rating)))), (.t (.v (.int .i64 (a0.Least)))), (.t (.v (.int .i64 (a0.Most)))), (.t (.sl 3 ((a0.Cuts : List api_Cut).map api_Cut.enc))), (.t (.v (.int .i64 (a0.Issuer)))), (.t (.v (.int .i64 (a0.Asset)))), (.t (.sl 1 ((a0.Barred : List Int).map (fun x => [.v (.int .i64 x)]))))]))] []
def lombardref10_Basket_oe1 : lombardref10_Basket_O1 → Exit
  | .e0 => .ret
  | .e1 => .exit 2
def lombardref10_Basket_op1 : lombardref10_Basket_O1 → List Prep
  | .e0 => [.keep [2] []]
  | .e1 => [.keep [] []]
def lombardref10_Basket_os1 (a0 : api_Basket) : lombardref10_Basket_O1 → St
  | .e0 => mkSt [(2, (.t (.v (.int .i64 (1)))))] [] []
  | .e1 => mkSt [] [] []
theorem lombardref10_Basket_l1 {a0 : api_Basket} {s1_0 : Int} {o : lombardref10_Basket_O1} (h : lombardref10_Basket_L1 a0 s1_0 o) : LW Try.prog 128 (loopAt Try.f14 1) (At (lombardref10_Basket_oe1 o) (lombardref10_Basket_op1 o) (lombardref10_Basket_os1 a0 o)) (lombardref10_Basket_s1 a0 s1_0) := by
  induction h with
  | p0 s1_0 xb1 rb2 h1 h2 h3 h4 h5 =>
    have qe : mkSt [(2, (.t (.v (.int .i64 (1)))))] [] [] = lombardref10_Basket_os1 a0 (.e0) := by first | rfl | (simp only [lombardref10_Basket_os1, List.map_append, List.map_cons, List.map_nil, List.map_set, List.map_take, List.map_drop, List.map_replicate]; done)
    exact LW_run [.dir 100 true, .reg 15 [] [(3, .row (s1_0).toNat [(.v (.int .i64 (xb1)))]), (5, .call [] (.t (boo (rb2))) []), (7, .dir true)]] [] (And.intro (decide_eq_true h1) (And.intro (And.intro (And.intro (Int.toNat_of_nonneg h2).symm (get_map (f := (fun x => [.v (.int .i64 x)])) h3)) (And.intro (lombardref10_in_con h4) (congrArg Bool.not (h5)))) (And.intro (rfl : (.ret : Exit) = .ret) qe))) (by kernel_rfl)
  | p1 s1_0 xb1 rb2 xb3 h1 h2 h3 h4 h5 h6 h7 h8 h9 h10 =>
    have qe : mkSt [(2, (.t (.v (.int .i64 (1)))))] [] [] = lombardref10_Basket_os1 a0 (.e0) := by first | rfl | (simp only [lombardref10_Basket_os1, List.map_append, List.map_cons, List.map_nil, List.map_set, List.map_take, List.map_drop, List.map_replicate]; done)
    exact LW_run [.dir 100 true, .reg 15 [] [(3, .row (s1_0).toNat [(.v (.int .i64 (xb1)))]), (5, .call [] (.t (boo (rb2))) []), (7, .dir false), (10, .dir true), (14, .row (s1_0).toNat [(.v (.int .i64 (xb1)))]), (19, .nw), (20, .row ((s1_0 - 1)).toNat [(.v (.int .i64 (xb3)))])], .dir 127 true] [] (And.intro (decide_eq_true h1) (And.intro (And.intro (And.intro (Int.toNat_of_nonneg h2).symm (get_map (f := (fun x => [.v (.int .i64 x)])) h3)) (And.intro (lombardref10_in_con h4) (And.intro (congrArg Bool.not (h5)) (And.intro (decide_eq_true h6) (And.intro (And.intro (Int.toNat_of_nonneg h2).symm (get_map (f := (fun x => [.v (.int .i64 x)])) h3)) (And.intro h7 (And.intro (Int.toNat_of_nonneg h8).symm (get_map (f := (fun x => [.v (.int .i64 x)])) h9)))))))) (And.intro (decide_eq_true h10) (And.intro (rfl : (.ret : Exit) = .ret) qe)))) (by kernel_rfl)
  | p2 s1_0 xb1 rb2 xb3 h1 h2 h3 h4 h5 h6 h7 h8 h9 h10 h11 hr ih =>
    (try simp only [lombardref10_Basket_s1, List.map_append, List.map_cons, List.map_nil, List.map_set, List.map_take, List.map_drop, List.map_replicate] at ih)
    exact LW_run [.dir 100 true, .reg 15 [] [(3, .row (s1_0).toNat [(.v (.int .i64 (xb1)))]), (5, .call [] (.t (boo (rb2))) []), (7, .dir false), (10, .dir true), (14, .row (s1_0).toNat [(.v (.int .i64 (xb1)))]), (19, .nw), (20, .row ((s1_0 - 1)).toNat [(.v (.int .i64 (xb3)))])], .dir 127 false, .reg 14 [] [(1, .nw)]] [.keep [1, 4] [1]] (And.intro (decide_eq_true h1) (And.intro (And.intro (And.intro (Int.toNat_of_nonneg h2).symm (get_map (f := (fun x => [.v (.int .i64 x)])) h3)) (And.intro (lombardref10_in_con h4) (And.intro (congrArg Bool.not (h5)) (And.intro (decide_eq_true h6) (And.intro (And.intro (Int.toNat_of_nonneg h2).symm (get_map (f := (fun x => [.v (.int .i64 x)])) h3)) (And.intro h7 (And.intro (Int.toNat_of_nonneg h8).symm (get_map (f := (fun x => [.v (.int .i64 x)])) h9)))))))) (And.intro (decide_eq_false h10) (And.intro h11 ih)))) (by kernel_rfl)
  | p3 s1_0 xb1 rb2 h1 h2 h3 h4 h5 h6 h7 hr ih =>
    (try simp only [lombardref10_Basket_s1, List.map_append, List.map_cons, List.map_nil, List.map_set, List.map_take, List.map_drop, List.map_replicate] at ih)
    exact LW_run [.dir 100 true, .reg 15 [] [(3, .row (s1_0).toNat [(.v (.int .i64 (xb1)))]), (5, .call [] (.t (boo (rb2))) []), (7, .dir false), (10, .dir false)], .reg 14 [] [(1, .nw)]] [.keep [1, 4] [1]] (And.intro (decide_eq_true h1) (And.intro (And.intro (And.intro (Int.toNat_of_nonneg h2).symm (get_map (f := (fun x => [.v (.int .i64 x)])) h3)) (And.intro (lombardref10_in_con h4) (And.intro (congrArg Bool.not (h5)) (decide_eq_false h6)))) (And.intro h7 ih))) (by kernel_rfl)
  | p4 s1_0 h1 =>
    have qe : mkSt [] [] [] = lombardref10_Basket_os1 a0 (.e1) := by first | rfl | (simp only [lombardref10_Basket_os1, List.map_append, List.map_cons, List.map_nil, List.map_set, List.map_take, List.map_drop, List.map_replicate]; done)
    exact LW_run [.dir 100 false] [] (And.intro (decide_eq_false h1) (And.intro (rfl : ((.exit 2) : Exit) = (.exit 2)) qe)) (by kernel_rfl)
def lombardref10_Basket_w1 (a0 : api_Basket) (s1_0 : Int) (Q : lombardref10_Basket_O1 → Prop) : Prop := (if s1_0 < (lenM (fun x => [.v (.int .i64 x)]) a0.Barred) then ((0 ≤ s1_0) ∧ (∃ xb1 : Int, (a0.Barred[(s1_0).toNat]? = some xb1) ∧ (∃ rb2 : Bool, (lombardref10_in xb1 0 9999 rb2) ∧ ((if rb2 = true then ((if s1_0 > 0 then ((InR ((s1_0 - 1))) ∧ ((0 ≤ (s1_0 - 1)) ∧ (∃ xb3 : Int, (a0.Barred[((s1_0 - 1)).toNat]? = some xb3) ∧ ((if xb1 ≤ xb3 then (Q (.e0)) else ((InR ((s1_0 + 1))) ∧ (∃ o, lombardref10_Basket_L1 a0 (s1_0 + 1) o ∧ Q o))))))) else ((InR ((s1_0 + 1))) ∧ (∃ o, lombardref10_Basket_L1 a0 (s1_0 + 1) o ∧ Q o)))) else (Q (.e0))))))) else (Q (.e1)))
theorem lombardref10_Basket_of1 {a0 : api_Basket} {s1_0 : Int} {Q : lombardref10_Basket_O1 → Prop} (h : lombardref10_Basket_w1 a0 s1_0 Q) : ∃ o, lombardref10_Basket_L1 a0 s1_0 o ∧ Q o := by
  unfold lombardref10_Basket_w1 at h
  by_cases hc : s1_0 < (lenM (fun x => [.v (.int .i64 x)]) a0.Barred)
  · have h1 : s1_0 < (lenM (fun x => [.v (.int .i64 x)]) a0.Barred) := hc
    replace h := ifP hc h
    obtain ⟨h2, h⟩ := h
    obtain ⟨xb1, h⟩ := h
    obtain ⟨h3, h⟩ := h
    obtain ⟨rb2, h⟩ := h
    obtain ⟨h4, h⟩ := h
    by_cases hc : rb2 = true
    · have h5 : rb2 = true := hc
      replace h := ifP hc h
      by_cases hc : s1_0 > 0
      · have h6 : s1_0 > 0 := hc
        replace h := ifP hc h
        obtain ⟨h7, h⟩ := h
        obtain ⟨h8, h⟩ := h
        obtain ⟨xb3, h⟩ := h
        obtain ⟨h9, h⟩ := h
        by_cases hc : xb1 ≤ xb3
        · have h10 : xb1 ≤ xb3 := hc
          replace h := ifP hc h
          exact ⟨_, .p1 s1_0 xb1 rb2 xb3 h1 h2 h3 h4 h5 h6 h7 h8 h9 h10, h⟩
        · have h10 : ¬ (xb1 ≤ xb3) := hc
          replace h := ifN hc h
          obtain ⟨h11, h⟩ := h
          obtain ⟨o, hr, h⟩ := h; exact ⟨o, .p2 s1_0 xb1 rb2 xb3 h1 h2 h3 h4 h5 h6 h7 h8 h9 h10 h11 hr, h⟩
      · have h6 : ¬ (s1_0 > 0) := hc
        replace h := ifN hc h
        obtain ⟨h7, h⟩ := h
        obtain ⟨o, hr, h⟩ := h; exact ⟨o, .p3 s1_0 xb1 rb2 h1 h2 h3 h4 h5 h6 h7 hr, h⟩
    · have h5 : rb2 = false := bfalse hc
      replace h := ifN hc h
      exact ⟨_, .p0 s1_0 xb1 rb2 h1 h2 h3 h4 h5, h⟩
  · have h1 : ¬ (s1_0 < (lenM (fun x => [.v (.int .i64 x)]) a0.Barred)) := hc
    replace h := ifN hc h
    exact ⟨_, .p4 s1_0 h1, h⟩
def lombardref10_Basket_s0 (a0 : api_Basket) (s0_0 : Int) : St := mkSt [(1, (.at 1 0)), (3, (.t (.v (.int .i64 (s0_0)))))] [(1, (.box [(.t (.v (.int .i64 (a0.ID)))), (.t (.v (.int .i64 (a0.Version)))), (.t (str (a0.Currency))), (.t (.v (.int .i64 (a0.Rating)))), (.t (.v (.int .i64 (a0.Least)))), (.t (.v (.int .i64 (a0.Most)))), (.t (.sl 3 ((a0.Cuts : List api_Cut).map api_Cut.enc))), (.t (.v (.int .i64 (a0.Issuer)))), (.t (.v (.int .i64 (a0.Asset)))), (.t (.sl 1 ((a0.Barred : List Int).map (fun x => [.v (.int .i64 x)]))))]))] []
def lombardref10_Basket_oe0 : lombardref10_Basket_O0 → Exit
  | .e0 => .ret
  | .e1 => .exit 0
def lombardref10_Basket_op0 : lombardref10_Basket_O0 → List Prep
  | .e0 => [.keep [2] []]
  | .e1 => [.keep [1] [1]]
def lombardref10_Basket_os0 (a0 : api_Basket) : lombardref10_Basket_O0 → St
  | .e0 => mkSt [(2, (.t (.v (.int .i64 (1)))))] [] []
  | .e1 => mkSt [(1, (.at 1 0))] [(1, (.box [(.t (.v (.int .i64 (a0.ID)))), (.t (.v (.int .i64 (a0.Version)))), (.t (str (a0.Currency))), (.t (.v (.int .i64 (a0.Rating)))), (.t (.v (.int .i64 (a0.Least)))), (.t (.v (.int .i64 (a0.Most)))), (.t (.sl 3 ((a0.Cuts : List api_Cut).map api_Cut.enc))), (.t (.v (.int .i64 (a0.Issuer)))), (.t (.v (.int .i64 (a0.Asset)))), (.t (.sl 1 ((a0.Barred : List Int).map (fun x => [.v (.int .i64 x)]))))]))] []
theorem lombardref10_Basket_l0 {a0 : api_Basket} {s0_0 : Int} {o : lombardref10_Basket_O0} (h : lombardref10_Basket_L0 a0 s0_0 o) : LW Try.prog 128 (loopAt Try.f14 0) (At (lombardref10_Basket_oe0 o) (lombardref10_Basket_op0 o) (lombardref10_Basket_os0 a0 o)) (lombardref10_Basket_s0 a0 s0_0) := by
  induction h with
  | p0 s0_0 xa1 ra2 h1 h2 h3 h4 h5 =>
    have qe : mkSt [(2, (.t (.v (.int .i64 (1)))))] [] [] = lombardref10_Basket_os0 a0 (.e0) := by first | rfl | (simp only [lombardref10_Basket_os0, List.map_append, List.map_cons, List.map_nil, List.map_set, List.map_take, List.map_drop, List.map_replicate]; done)
    exact LW_run [.dir 65 true, .reg 10 [] [(3, .row (s0_0).toNat (api_Cut.enc xa1)), (6, .call [] (.t (boo (ra2))) []), (8, .dir true)]] [] (And.intro (decide_eq_true h1) (And.intro (And.intro (And.intro (Int.toNat_of_nonneg h2).symm (get_map (f := api_Cut.enc) h3)) (And.intro (lombardref10_in_con h4) (congrArg Bool.not (h5)))) (And.intro (rfl : (.ret : Exit) = .ret) qe))) (by kernel_rfl)
  | p1 s0_0 xa1 ra2 ra3 h1 h2 h3 h4 h5 h6 h7 =>
    have qe : mkSt [(2, (.t (.v (.int .i64 (1)))))] [] [] = lombardref10_Basket_os0 a0 (.e0) := by first | rfl | (simp only [lombardref10_Basket_os0, List.map_append, List.map_cons, List.map_nil, List.map_set, List.map_take, List.map_drop, List.map_replicate]; done)
    exact LW_run [.dir 65 true, .reg 10 [] [(3, .row (s0_0).toNat (api_Cut.enc xa1)), (6, .call [] (.t (boo (ra2))) []), (8, .dir false), (12, .row (s0_0).toNat (api_Cut.enc xa1)), (15, .call [] (.t (boo (ra3))) []), (18, .dir true)]] [] (And.intro (decide_eq_true h1) (And.intro (And.intro (And.intro (Int.toNat_of_nonneg h2).symm (get_map (f := api_Cut.enc) h3)) (And.intro (lombardref10_in_con h4) (And.intro (congrArg Bool.not (h5)) (And.intro (And.intro (Int.toNat_of_nonneg h2).symm (get_map (f := api_Cut.enc) h3)) (And.intro (lombardref10_in_con h6) (congrArg Bool.not (h7))))))) (And.intro (rfl : (.ret : Exit) = .ret) qe))) (by kernel_rfl)
  | p2 s0_0 xa1 ra2 ra3 ra4 h1 h2 h3 h4 h5 h6 h7 h8 h9 =>
    have qe : mkSt [(2, (.t (.v (.int .i64 (1)))))] [] [] = lombardref10_Basket_os0 a0 (.e0) := by first | rfl | (simp only [lombardref10_Basket_os0, List.map_append, List.map_cons, List.map_nil, List.map_set, List.map_take, List.map_drop, List.map_replicate]; done)
    exact LW_run [.dir 65 true, .reg 10 [] [(3, .row (s0_0).toNat (api_Cut.enc xa1)), (6, .call [] (.t (boo (ra2))) []), (8, .dir false), (12, .row (s0_0).toNat (api_Cut.enc xa1)), (15, .call [] (.t (boo (ra3))) []), (18, .dir false), (22, .row (s0_0).toNat (api_Cut.enc xa1)), (25, .call [] (.t (boo (ra4))) [])], .dir 95 true] [] (And.intro (decide_eq_true h1) (And.intro (And.intro (And.intro (Int.toNat_of_nonneg h2).symm (get_map (f := api_Cut.enc) h3)) (And.intro (lombardref10_in_con h4) (And.intro (congrArg Bool.not (h5)) (And.intro (And.intro (Int.toNat_of_nonneg h2).symm (get_map (f := api_Cut.enc) h3)) (And.intro (lombardref10_in_con h6) (And.intro (congrArg Bool.not (h7)) (And.intro (And.intro (Int.toNat_of_nonneg h2).symm (get_map (f := api_Cut.enc) h3)) (lombardref10_in_con h8)))))))) (And.intro (congrArg Bool.not (h9)) (And.intro (rfl : (.ret : Exit) = .ret) qe)))) (by kernel_rfl)
  | p3 s0_0 xa1 ra2 ra3 ra4 h1 h2 h3 h4 h5 h6 h7 h8 h9 h10 hr ih =>
    (try simp only [lombardref10_Basket_s0, List.map_append, List.map_cons, List.map_nil, List.map_set, List.map_take, List.map_drop, List.map_replicate] at ih)
    exact LW_run [.dir 65 true, .reg 10 [] [(3, .row (s0_0).toNat (api_Cut.enc xa1)), (6, .call [] (.t (boo (ra2))) []), (8, .dir false), (12, .row (s0_0).toNat (api_Cut.enc xa1)), (15, .call [] (.t (boo (ra3))) []), (18, .dir false), (22, .row (s0_0).toNat (api_Cut.enc xa1)), (25, .call [] (.t (boo (ra4))) [])], .dir 95 false, .reg 9 [] [(1, .nw)]] [.keep [1, 3] [1]] (And.intro (decide_eq_true h1) (And.intro (And.intro (And.intro (Int.toNat_of_nonneg h2).symm (get_map (f := api_Cut.enc) h3)) (And.intro (lombardref10_in_con h4) (And.intro (congrArg Bool.not (h5)) (And.intro (And.intro (Int.toNat_of_nonneg h2).symm (get_map (f := api_Cut.enc) h3)) (And.intro (lombardref10_in_con h6) (And.intro (congrArg Bool.not (h7)) (And.intro (And.intro (Int.toNat_of_nonneg h2).symm (get_map (f := api_Cut.enc) h3)) (lombardref10_in_con h8)))))))) (And.intro (congrArg Bool.not (h9)) (And.intro h10 ih)))) (by kernel_rfl)
  | p4 s0_0 h1 =>
    have qe : mkSt [(1, (.at 1 0))] [(1, (.box [(.t (.v (.int .i64 (a0.ID)))), (.t (.v (.int .i64 (a0.Version)))), (.t (str (a0.Currency))), (.t (.v (.int .i64 (a0.Rating)))), (.t (.v (.int .i64 (a0.Least)))), (.t (.v (.int .i64 (a0.Most)))), (.t (.sl 3 ((a0.Cuts : List api_Cut).map api_Cut.enc))), (.t (.v (.int .i64 (a0.Issuer)))), (.t (.v (.int .i64 (a0.Asset)))), (.t (.sl 1 ((a0.Barred : List Int).map (fun x => [.v (.int .i64 x)]))))]))] [] = lombardref10_Basket_os0 a0 (.e1) := by first | rfl | (simp only [lombardref10_Basket_os0, List.map_append, List.map_cons, List.map_nil, List.map_set, List.map_take, List.map_drop, List.map_replicate]; done)
    exact LW_run [.dir 65 false] [] (And.intro (decide_eq_false h1) (And.intro (rfl : ((.exit 0) : Exit) = (.exit 0)) qe)) (by kernel_rfl)
def lombardref10_Basket_w0 (a0 : api_Basket) (s0_0 : Int) (Q : lombardref10_Basket_O0 → Prop) : Prop := (if s0_0 < (lenM api_Cut.enc a0.Cuts) then ((0 ≤ s0_0) ∧ (∃ xa1 : api_Cut, (a0.Cuts[(s0_0).toNat]? = some xa1) ∧ (∃ ra2 : Bool, (lombardref10_in xa1.Days 0 200000 ra2) ∧ ((if ra2 = true then (∃ ra3 : Bool, (lombardref10_in xa1.Rating 0 20 ra3) ∧ ((if ra3 = true then (∃ ra4 : Bool, (lombardref10_in xa1.Cut 0 999999 ra4) ∧ ((if ra4 = true then ((InR ((s0_0 + 1))) ∧ (∃ o, lombardref10_Basket_L0 a0 (s0_0 + 1) o ∧ Q o)) else (Q (.e0))))) else (Q (.e0))))) else (Q (.e0))))))) else (Q (.e1)))
theorem lombardref10_Basket_of0 {a0 : api_Basket} {s0_0 : Int} {Q : lombardref10_Basket_O0 → Prop} (h : lombardref10_Basket_w0 a0 s0_0 Q) : ∃ o, lombardref10_Basket_L0 a0 s0_0 o ∧ Q o := by
  unfold lombardref10_Basket_w0 at h
  by_cases hc : s0_0 < (lenM api_Cut.enc a0.Cuts)
  · have h1 : s0_0 < (lenM api_Cut.enc a0.Cuts) := hc
    replace h := ifP hc h
    obtain ⟨h2, h⟩ := h
    obtain ⟨xa1, h⟩ := h
    obtain ⟨h3, h⟩ := h
    obtain ⟨ra2, h⟩ := h
    obtain ⟨h4, h⟩ := h
    by_cases hc : ra2 = true
    · have h5 : ra2 = true := hc
      replace h := ifP hc h
      obtain ⟨ra3, h⟩ := h
      obtain ⟨h6, h⟩ := h
      by_cases hc : ra3 = true
      · have h7 : ra3 = true := hc
        replace h := ifP hc h
        obtain ⟨ra4, h⟩ := h
        obtain ⟨h8, h⟩ := h
        by_cases hc : ra4 = true
        · have h9 : ra4 = true := hc
          replace h := ifP hc h
          obtain ⟨h10, h⟩ := h
          obtain ⟨o, hr, h⟩ := h; exact ⟨o, .p3 s0_0 xa1 ra2 ra3 ra4 h1 h2 h3 h4 h5 h6 h7 h8 h9 h10 hr, h⟩
        · have h9 : ra4 = false := bfalse hc
          replace h := ifN hc h
          exact ⟨_, .p2 s0_0 xa1 ra2 ra3 ra4 h1 h2 h3 h4 h5 h6 h7 h8 h9, h⟩
      · have h7 : ra3 = false := bfalse hc
        replace h := ifN hc h
        exact ⟨_, .p1 s0_0 xa1 ra2 ra3 h1 h2 h3 h4 h5 h6 h7, h⟩
    · have h5 : ra2 = false := bfalse hc
      replace h := ifN hc h
      exact ⟨_, .p0 s0_0 xa1 ra2 h1 h2 h3 h4 h5, h⟩
  · have h1 : ¬ (s0_0 < (lenM api_Cut.enc a0.Cuts)) := hc
    replace h := ifN hc h
    exact ⟨_, .p4 s0_0 h1, h⟩
theorem lombardref10_Basket_con {a0 : api_Basket} {r0_ : Int} (h : lombardref10_Basket a0 r0_) : Con Try.prog 14 [(.agg [(.t (.v (.int .i64 (a0.ID)))), (.t (.v (.int .i64 (a0.Version)))), (.t (str (a0.Currency))), (.t (.v (.int .i64 (a0.Rating)))), (.t (.v (.int .i64 (a0.Least)))), (.t (.v (.int .i64 (a0.Most)))), (.t (.sl 3 ((a0.Cuts : List api_Cut).map api_Cut.enc))), (.t (.v (.int .i64 (a0.Issuer)))), (.t (.v (.int .i64 (a0.Asset)))), (.t (.sl 1 ((a0.Barred : List Int).map (fun x => [.v (.int .i64 x)]))))])] [] (fun r os => r = (.t (.v (.int .i64 (r0_)))) ∧ os = []) := by
  induction h with
  | p0 r1 h1 h2 =>
    have qr : ((.t (.v (.int .i64 (1)))) : A) = (.t (.v (.int .i64 (1)))) := by first | rfl | (simp only [List.map_append, List.map_cons, List.map_nil, List.map_set, List.map_take, List.map_drop, List.map_replicate]; done)
    exact Con_run Try.call14 Try.func14 [] [.reg 1 [] [(2, .call [] (.t (boo (r1))) []), (4, .dir true)]] (by kernel_rfl) (And.intro (And.intro (lombardref10_in_con h1) (congrArg Bool.not (h2))) (And.intro qr (rfl : ([] : List (Nat × O)) = []))) (by kernel_rfl)
  | p1 r1 r2 h1 h2 h3 h4 =>
    have qr : ((.t (.v (.int .i64 (1)))) : A) = (.t (.v (.int .i64 (1)))) := by first | rfl | (simp only [List.map_append, List.map_cons, List.map_nil, List.map_set, List.map_take, List.map_drop, List.map_replicate]; done)
    exact Con_run Try.call14 Try.func14 [] [.reg 1 [] [(2, .call [] (.t (boo (r1))) []), (4, .dir false), (7, .call [] (.t (boo (r2))) []), (10, .dir true)]] (by kernel_rfl) (And.intro (And.intro (lombardref10_in_con h1) (And.intro (congrArg Bool.not (h2)) (And.intro (lombardref10_Amount_con h3) (congrArg Bool.not (h4))))) (And.intro qr (rfl : ([] : List (Nat × O)) = []))) (by kernel_rfl)
  | p2 r1 r2 r3 h1 h2 h3 h4 h5 h6 =>
    have qr : ((.t (.v (.int .i64 (1)))) : A) = (.t (.v (.int .i64 (1)))) := by first | rfl | (simp only [List.map_append, List.map_cons, List.map_nil, List.map_set, List.map_take, List.map_drop, List.map_replicate]; done)
    exact Con_run Try.call14 Try.func14 [] [.reg 1 [] [(2, .call [] (.t (boo (r1))) []), (4, .dir false), (7, .call [] (.t (boo (r2))) []), (10, .dir false), (13, .call [] (.t (boo (r3))) []), (16, .dir true)]] (by kernel_rfl) (And.intro (And.intro (lombardref10_in_con h1) (And.intro (congrArg Bool.not (h2)) (And.intro (lombardref10_Amount_con h3) (And.intro (congrArg Bool.not (h4)) (And.intro (lombardref10_in_con h5) (congrArg Bool.not (h6))))))) (And.intro qr (rfl : ([] : List (Nat × O)) = []))) (by kernel_rfl)
  | p3 r1 r2 r3 r4 h1 h2 h3 h4 h5 h6 h7 h8 =>
    have qr : ((.t (.v (.int .i64 (1)))) : A) = (.t (.v (.int .i64 (1)))) := by first | rfl | (simp only [List.map_append, List.map_cons, List.map_nil, List.map_set, List.map_take, List.map_drop, List.map_replicate]; done)
    exact Con_run Try.call14 Try.func14 [] [.reg 1 [] [(2, .call [] (.t (boo (r1))) []), (4, .dir false), (7, .call [] (.t (boo (r2))) []), (10, .dir false), (13, .call [] (.t (boo (r3))) []), (16, .dir false), (19, .call [] (.t (boo (r4))) []), (22, .dir true)]] (by kernel_rfl) (And.intro (And.intro (lombardref10_in_con h1) (And.intro (congrArg Bool.not (h2)) (And.intro (lombardref10_Amount_con h3) (And.intro (congrArg Bool.not (h4)) (And.intro (lombardref10_in_con h5) (And.intro (congrArg Bool.not (h6)) (And.intro (lombardref10_in_con h7) (congrArg Bool.not (h8))))))))) (And.intro qr (rfl : ([] : List (Nat × O)) = []))) (by kernel_rfl)
  | p4 r1 r2 r3 r4 r5 h1 h2 h3 h4 h5 h6 h7 h8 h9 h10 =>
    have qr : ((.t (.v (.int .i64 (1)))) : A) = (.t (.v (.int .i64 (1)))) := by first | rfl | (simp only [List.map_append, List.map_cons, List.map_nil, List.map_set, List.map_take, List.map_drop, List.map_replicate]; done)
    exact Con_run Try.call14 Try.func14 [] [.reg 1 [] [(2, .call [] (.t (boo (r1))) []), (4, .dir false), (7, .call [] (.t (boo (r2))) []), (10, .dir false), (13, .call [] (.t (boo (r3))) []), (16, .dir false), (19, .call [] (.t (boo (r4))) []), (22, .dir false), (25, .call [] (.t (boo (r5))) []), (28, .dir true)]] (by kernel_rfl) (And.intro (And.intro (lombardref10_in_con h1) (And.intro (congrArg Bool.not (h2)) (And.intro (lombardref10_Amount_con h3) (And.intro (congrArg Bool.not (h4)) (And.intro (lombardref10_in_con h5) (And.intro (congrArg Bool.not (h6)) (And.intro (lombardref10_in_con h7) (And.intro (congrArg Bool.not (h8)) (And.intro (lombardref10_in_con h9) (congrArg Bool.not (h10))))))))))) (And.intro qr (rfl : ([] : List (Nat × O)) = []))) (by kernel_rfl)
  | p5 r1 r2 r3 r4 r5 r6 h1 h2 h3 h4 h5 h6 h7 h8 h9 h10 h11 h12 =>
    have qr : ((.t (.v (.int .i64 (1)))) : A) = (.t (.v (.int .i64 (1)))) := by first | rfl | (simp only [List.map_append, List.map_cons, List.map_nil, List.map_set, List.map_take, List.map_drop, List.map_replicate]; done)
    exact Con_run Try.call14 Try.func14 [] [.reg 1 [] [(2, .call [] (.t (boo (r1))) []), (4, .dir false), (7, .call [] (.t (boo (r2))) []), (10, .dir false), (13, .call [] (.t (boo (r3))) []), (16, .dir false), (19, .call [] (.t (boo (r4))) []), (22, .dir false), (25, .call [] (.t (boo (r5))) []), (28, .dir false), (32, .call [] (.t (boo (r6))) []), (35, .dir true)]] (by kernel_rfl) (And.intro (And.intro (lombardref10_in_con h1) (And.intro (congrArg Bool.not (h2)) (And.intro (lombardref10_Amount_con h3) (And.intro (congrArg Bool.not (h4)) (And.intro (lombardref10_in_con h5) (And.intro (congrArg Bool.not (h6)) (And.intro (lombardref10_in_con h7) (And.intro (congrArg Bool.not (h8)) (And.intro (lombardref10_in_con h9) (And.intro (congrArg Bool.not (h10)) (And.intro (lombardref10_in_con h11) (congrArg Bool.not (h12))))))))))))) (And.intro qr (rfl : ([] : List (Nat × O)) = []))) (by kernel_rfl)
  | p6 r1 r2 r3 r4 r5 r6 h1 h2 h3 h4 h5 h6 h7 h8 h9 h10 h11 h12 h13 =>
    have qr : ((.t (.v (.int .i64 (1)))) : A) = (.t (.v (.int .i64 (1)))) := by first | rfl | (simp only [List.map_append, List.map_cons, List.map_nil, List.map_set, List.map_take, List.map_drop, List.map_replicate]; done)
    exact Con_run Try.call14 Try.func14 [] [.reg 1 [] [(2, .call [] (.t (boo (r1))) []), (4, .dir false), (7, .call [] (.t (boo (r2))) []), (10, .dir false), (13, .call [] (.t (boo (r3))) []), (16, .dir false), (19, .call [] (.t (boo (r4))) []), (22, .dir false), (25, .call [] (.t (boo (r5))) []), (28, .dir false), (32, .call [] (.t (boo (r6))) []), (35, .dir false)], .dir 45 true] (by kernel_rfl) (And.intro (And.intro (lombardref10_in_con h1) (And.intro (congrArg Bool.not (h2)) (And.intro (lombardref10_Amount_con h3) (And.intro (congrArg Bool.not (h4)) (And.intro (lombardref10_in_con h5) (And.intro (congrArg Bool.not (h6)) (And.intro (lombardref10_in_con h7) (And.intro (congrArg Bool.not (h8)) (And.intro (lombardref10_in_con h9) (And.intro (congrArg Bool.not (h10)) (And.intro (lombardref10_in_con h11) (congrArg Bool.not (h12))))))))))))) (And.intro (decide_eq_true h13) (And.intro qr (rfl : ([] : List (Nat × O)) = [])))) (by kernel_rfl)
  | p7 r1 r2 r3 r4 r5 r6 h1 h2 h3 h4 h5 h6 h7 h8 h9 h10 h11 h12 h13 h14 =>
    have qr : ((.t (.v (.int .i64 (10)))) : A) = (.t (.v (.int .i64 (10)))) := by first | rfl | (simp only [List.map_append, List.map_cons, List.map_nil, List.map_set, List.map_take, List.map_drop, List.map_replicate]; done)
    exact Con_run Try.call14 Try.func14 [] [.reg 1 [] [(2, .call [] (.t (boo (r1))) []), (4, .dir false), (7, .call [] (.t (boo (r2))) []), (10, .dir false), (13, .call [] (.t (boo (r3))) []), (16, .dir false), (19, .call [] (.t (boo (r4))) []), (22, .dir false), (25, .call [] (.t (boo (r5))) []), (28, .dir false), (32, .call [] (.t (boo (r6))) []), (35, .dir false)], .dir 45 false, .reg 3 [] [(3, .dir true)]] (by kernel_rfl) (And.intro (And.intro (lombardref10_in_con h1) (And.intro (congrArg Bool.not (h2)) (And.intro (lombardref10_Amount_con h3) (And.intro (congrArg Bool.not (h4)) (And.intro (lombardref10_in_con h5) (And.intro (congrArg Bool.not (h6)) (And.intro (lombardref10_in_con h7) (And.intro (congrArg Bool.not (h8)) (And.intro (lombardref10_in_con h9) (And.intro (congrArg Bool.not (h10)) (And.intro (lombardref10_in_con h11) (congrArg Bool.not (h12))))))))))))) (And.intro (decide_eq_false h13) (And.intro (decide_eq_true h14) (And.intro qr (rfl : ([] : List (Nat × O)) = []))))) (by kernel_rfl)
  | p8 r1 r2 r3 r4 r5 r6 r7 h1 h2 h3 h4 h5 h6 h7 h8 h9 h10 h11 h12 h13 h14 h15 h16 =>
    have qr : ((.t (.v (.int .i64 (10)))) : A) = (.t (.v (.int .i64 (10)))) := by first | rfl | (simp only [List.map_append, List.map_cons, List.map_nil, List.map_set, List.map_take, List.map_drop, List.map_replicate]; done)
    exact Con_run Try.call14 Try.func14 [] [.reg 1 [] [(2, .call [] (.t (boo (r1))) []), (4, .dir false), (7, .call [] (.t (boo (r2))) []), (10, .dir false), (13, .call [] (.t (boo (r3))) []), (16, .dir false), (19, .call [] (.t (boo (r4))) []), (22, .dir false), (25, .call [] (.t (boo (r5))) []), (28, .dir false), (32, .call [] (.t (boo (r6))) []), (35, .dir false)], .dir 45 false, .reg 3 [] [(3, .dir false), (8, .call [] (.t (boo (r7))) [])], .dir 56 true] (by kernel_rfl) (And.intro (And.intro (lombardref10_in_con h1) (And.intro (congrArg Bool.not (h2)) (And.intro (lombardref10_Amount_con h3) (And.intro (congrArg Bool.not (h4)) (And.intro (lombardref10_in_con h5) (And.intro (congrArg Bool.not (h6)) (And.intro (lombardref10_in_con h7) (And.intro (congrArg Bool.not (h8)) (And.intro (lombardref10_in_con h9) (And.intro (congrArg Bool.not (h10)) (And.intro (lombardref10_in_con h11) (congrArg Bool.not (h12))))))))))))) (And.intro (decide_eq_false h13) (And.intro (And.intro (decide_eq_false h14) (lombardref10_in_con h15)) (And.intro (congrArg Bool.not (h16)) (And.intro qr (rfl : ([] : List (Nat × O)) = [])))))) (by kernel_rfl)
  | p9 r1 r2 r3 r4 r5 r6 r7 r8 h1 h2 h3 h4 h5 h6 h7 h8 h9 h10 h11 h12 h13 h14 h15 h16 h17 h18 =>
    have qr : ((.t (.v (.int .i64 (11)))) : A) = (.t (.v (.int .i64 (11)))) := by first | rfl | (simp only [List.map_append, List.map_cons, List.map_nil, List.map_set, List.map_take, List.map_drop, List.map_replicate]; done)
    exact Con_run Try.call14 Try.func14 [] [.reg 1 [] [(2, .call [] (.t (boo (r1))) []), (4, .dir false), (7, .call [] (.t (boo (r2))) []), (10, .dir false), (13, .call [] (.t (boo (r3))) []), (16, .dir false), (19, .call [] (.t (boo (r4))) []), (22, .dir false), (25, .call [] (.t (boo (r5))) []), (28, .dir false), (32, .call [] (.t (boo (r6))) []), (35, .dir false)], .dir 45 false, .reg 3 [] [(3, .dir false), (8, .call [] (.t (boo (r7))) [])], .dir 56 false, .reg 5 [] [(2, .call [] (.t (boo (r8))) [])], .dir 60 true] (by kernel_rfl) (And.intro (And.intro (lombardref10_in_con h1) (And.intro (congrArg Bool.not (h2)) (And.intro (lombardref10_Amount_con h3) (And.intro (congrArg Bool.not (h4)) (And.intro (lombardref10_in_con h5) (And.intro (congrArg Bool.not (h6)) (And.intro (lombardref10_in_con h7) (And.intro (congrArg Bool.not (h8)) (And.intro (lombardref10_in_con h9) (And.intro (congrArg Bool.not (h10)) (And.intro (lombardref10_in_con h11) (congrArg Bool.not (h12))))))))))))) (And.intro (decide_eq_false h13) (And.intro (And.intro (decide_eq_false h14) (lombardref10_in_con h15)) (And.intro (congrArg Bool.not (h16)) (And.intro (lombardref05_Currency_con h17) (And.intro (congrArg Bool.not (h18)) (And.intro qr (rfl : ([] : List (Nat × O)) = [])))))))) (by kernel_rfl)
  | p10 r1 r2 r3 r4 r5 r6 r7 r8 h1 h2 h3 h4 h5 h6 h7 h8 h9 h10 h11 h12 h13 h14 h15 h16 h17 h18 h19 =>
    have q1 := lombardref10_Basket_l0 h19
    (try simp only [lombardref10_Basket_s0, List.map_append, List.map_cons, List.map_nil, List.map_set, List.map_take, List.map_drop, List.map_replicate] at q1)
    have qr : ((.t (.v (.int .i64 (1)))) : A) = (.t (.v (.int .i64 (1)))) := by first | rfl | (simp only [List.map_append, List.map_cons, List.map_nil, List.map_set, List.map_take, List.map_drop, List.map_replicate]; done)
    exact Con_run Try.call14 Try.func14 [] [.reg 1 [] [(2, .call [] (.t (boo (r1))) []), (4, .dir false), (7, .call [] (.t (boo (r2))) []), (10, .dir false), (13, .call [] (.t (boo (r3))) []), (16, .dir false), (19, .call [] (.t (boo (r4))) []), (22, .dir false), (25, .call [] (.t (boo (r5))) []), (28, .dir false), (32, .call [] (.t (boo (r6))) []), (35, .dir false)], .dir 45 false, .reg 3 [] [(3, .dir false), (8, .call [] (.t (boo (r7))) [])], .dir 56 false, .reg 5 [] [(2, .call [] (.t (boo (r8))) [])], .dir 60 false, .blk 0 [.keep [1, 3] [1]], .loop .ret [.keep [2] []] (lombardref10_Basket_os0 a0 (.e0))] (by kernel_rfl) (And.intro (And.intro (lombardref10_in_con h1) (And.intro (congrArg Bool.not (h2)) (And.intro (lombardref10_Amount_con h3) (And.intro (congrArg Bool.not (h4)) (And.intro (lombardref10_in_con h5) (And.intro (congrArg Bool.not (h6)) (And.intro (lombardref10_in_con h7) (And.intro (congrArg Bool.not (h8)) (And.intro (lombardref10_in_con h9) (And.intro (congrArg Bool.not (h10)) (And.intro (lombardref10_in_con h11) (congrArg Bool.not (h12))))))))))))) (And.intro (decide_eq_false h13) (And.intro (And.intro (decide_eq_false h14) (lombardref10_in_con h15)) (And.intro (congrArg Bool.not (h16)) (And.intro (lombardref05_Currency_con h17) (And.intro (congrArg Bool.not (h18)) (And.intro q1 (And.intro qr (rfl : ([] : List (Nat × O)) = []))))))))) (by kernel_rfl)
  | p11 r1 r2 r3 r4 r5 r6 r7 r8 h1 h2 h3 h4 h5 h6 h7 h8 h9 h10 h11 h12 h13 h14 h15 h16 h17 h18 h19 h20 =>
    have q1 := lombardref10_Basket_l0 h19
    (try simp only [lombardref10_Basket_s0, List.map_append, List.map_cons, List.map_nil, List.map_set, List.map_take, List.map_drop, List.map_replicate] at q1)
    have q2 := lombardref10_Basket_l1 h20
    (try simp only [lombardref10_Basket_s1, List.map_append, List.map_cons, List.map_nil, List.map_set, List.map_take, List.map_drop, List.map_replicate] at q2)
    have qr : ((.t (.v (.int .i64 (1)))) : A) = (.t (.v (.int .i64 (1)))) := by first | rfl | (simp only [List.map_append, List.map_cons, List.map_nil, List.map_set, List.map_take, List.map_drop, List.map_replicate]; done)
    exact Con_run Try.call14 Try.func14 [] [.reg 1 [] [(2, .call [] (.t (boo (r1))) []), (4, .dir false), (7, .call [] (.t (boo (r2))) []), (10, .dir false), (13, .call [] (.t (boo (r3))) []), (16, .dir false), (19, .call [] (.t (boo (r4))) []), (22, .dir false), (25, .call [] (.t (boo (r5))) []), (28, .dir false), (32, .call [] (.t (boo (r6))) []), (35, .dir false)], .dir 45 false, .reg 3 [] [(3, .dir false), (8, .call [] (.t (boo (r7))) [])], .dir 56 false, .reg 5 [] [(2, .call [] (.t (boo (r8))) [])], .dir 60 false, .blk 0 [.keep [1, 3] [1]], .loop (.exit 0) [.keep [1] [1]] (lombardref10_Basket_os0 a0 (.e1)), .blk 2 [.keep [1, 4] [1]], .loop .ret [.keep [2] []] (lombardref10_Basket_os1 a0 (.e0))] (by kernel_rfl) (And.intro (And.intro (lombardref10_in_con h1) (And.intro (congrArg Bool.not (h2)) (And.intro (lombardref10_Amount_con h3) (And.intro (congrArg Bool.not (h4)) (And.intro (lombardref10_in_con h5) (And.intro (congrArg Bool.not (h6)) (And.intro (lombardref10_in_con h7) (And.intro (congrArg Bool.not (h8)) (And.intro (lombardref10_in_con h9) (And.intro (congrArg Bool.not (h10)) (And.intro (lombardref10_in_con h11) (congrArg Bool.not (h12))))))))))))) (And.intro (decide_eq_false h13) (And.intro (And.intro (decide_eq_false h14) (lombardref10_in_con h15)) (And.intro (congrArg Bool.not (h16)) (And.intro (lombardref05_Currency_con h17) (And.intro (congrArg Bool.not (h18)) (And.intro q1 (And.intro q2 (And.intro qr (rfl : ([] : List (Nat × O)) = [])))))))))) (by kernel_rfl)
  | p12 r1 r2 r3 r4 r5 r6 r7 r8 h1 h2 h3 h4 h5 h6 h7 h8 h9 h10 h11 h12 h13 h14 h15 h16 h17 h18 h19 h20 =>
    have q1 := lombardref10_Basket_l0 h19
    (try simp only [lombardref10_Basket_s0, List.map_append, List.map_cons, List.map_nil, List.map_set, List.map_take, List.map_drop, List.map_replicate] at q1)
    have q2 := lombardref10_Basket_l1 h20
    (try simp only [lombardref10_Basket_s1, List.map_append, List.map_cons, List.map_nil, List.map_set, List.map_take, List.map_drop, List.map_replicate] at q2)
    have qr : ((.t (.v (.int .i64 (0)))) : A) = (.t (.v (.int .i64 (0)))) := by first | rfl | (simp only [List.map_append, List.map_cons, List.map_nil, List.map_set, List.map_take, List.map_drop, List.map_replicate]; done)
    exact Con_run Try.call14 Try.func14 [] [.reg 1 [] [(2, .call [] (.t (boo (r1))) []), (4, .dir false), (7, .call [] (.t (boo (r2))) []), (10, .dir false), (13, .call [] (.t (boo (r3))) []), (16, .dir false), (19, .call [] (.t (boo (r4))) []), (22, .dir false), (25, .call [] (.t (boo (r5))) []), (28, .dir false), (32, .call [] (.t (boo (r6))) []), (35, .dir false)], .dir 45 false, .reg 3 [] [(3, .dir false), (8, .call [] (.t (boo (r7))) [])], .dir 56 false, .reg 5 [] [(2, .call [] (.t (boo (r8))) [])], .dir 60 false, .blk 0 [.keep [1, 3] [1]], .loop (.exit 0) [.keep [1] [1]] (lombardref10_Basket_os0 a0 (.e1)), .blk 2 [.keep [1, 4] [1]], .loop (.exit 2) [.keep [] []] (lombardref10_Basket_os1 a0 (.e1))] (by kernel_rfl) (And.intro (And.intro (lombardref10_in_con h1) (And.intro (congrArg Bool.not (h2)) (And.intro (lombardref10_Amount_con h3) (And.intro (congrArg Bool.not (h4)) (And.intro (lombardref10_in_con h5) (And.intro (congrArg Bool.not (h6)) (And.intro (lombardref10_in_con h7) (And.intro (congrArg Bool.not (h8)) (And.intro (lombardref10_in_con h9) (And.intro (congrArg Bool.not (h10)) (And.intro (lombardref10_in_con h11) (congrArg Bool.not (h12))))))))))))) (And.intro (decide_eq_false h13) (And.intro (And.intro (decide_eq_false h14) (lombardref10_in_con h15)) (And.intro (congrArg Bool.not (h16)) (And.intro (lombardref05_Currency_con h17) (And.intro (congrArg Bool.not (h18)) (And.intro q1 (And.intro q2 (And.intro qr (rfl : ([] : List (Nat × O)) = [])))))))))) (by kernel_rfl)
def lombardref10_Basket_wp (a0 : api_Basket) (Q : Int → Prop) : Prop := ∃ r1 : Bool, (lombardref10_in a0.ID 1 64 r1) ∧ ((if r1 = true then (∃ r2 : Bool, (lombardref10_Amount a0.Version r2) ∧ ((if r2 = true then (∃ r3 : Bool, (lombardref10_in a0.Rating 0 20 r3) ∧ ((if r3 = true then (∃ r4 : Bool, (lombardref10_in a0.Issuer 0 1000000 r4) ∧ ((if r4 = true then (∃ r5 : Bool, (lombardref10_in a0.Asset 0 1000000 r5) ∧ ((if r5 = true then (∃ r6 : Bool, (lombardref10_in (lenM api_Cut.enc a0.Cuts) 1 64 r6) ∧ ((if r6 = true then ((if (lenM (fun x => [.v (.int .i64 x)]) a0.Barred) > 64 then (Q 1) else ((if a0.Least < 0 then (Q 10) else (∃ r7 : Bool, (lombardref10_in a0.Most a0.Least 200000 r7) ∧ ((if r7 = true then (∃ r8 : Bool, (lombardref05_Currency a0.Currency r8) ∧ ((if r8 = true then (∃ o, lombardref10_Basket_L0 a0 0 o ∧ (match o with | .e0 => (Q 1) | .e1 => (∃ o, lombardref10_Basket_L1 a0 0 o ∧ (match o with | .e0 => (Q 1) | .e1 => (Q 0))))) else (Q 11)))) else (Q 10)))))))) else (Q 1)))) else (Q 1)))) else (Q 1)))) else (Q 1)))) else (Q 1)))) else (Q 1)))
theorem lombardref10_Basket_of {a0 : api_Basket} {Q : Int → Prop} (h : lombardref10_Basket_wp a0 Q) : ∃ (r0_ : Int), lombardref10_Basket a0 r0_ ∧ Q r0_ := by
  unfold lombardref10_Basket_wp at h
  obtain ⟨r1, h⟩ := h
  obtain ⟨h1, h⟩ := h
  by_cases hc : r1 = true
  · have h2 : r1 = true := hc
    replace h := ifP hc h
    obtain ⟨r2, h⟩ := h
    obtain ⟨h3, h⟩ := h
    by_cases hc : r2 = true
    · have h4 : r2 = true := hc
      replace h := ifP hc h
      obtain ⟨r3, h⟩ := h
      obtain ⟨h5, h⟩ := h
      by_cases hc : r3 = true
      · have h6 : r3 = true := hc
        replace h := ifP hc h
        obtain ⟨r4, h⟩ := h
        obtain ⟨h7, h⟩ := h
        by_cases hc : r4 = true
        · have h8 : r4 = true := hc
          replace h := ifP hc h
          obtain ⟨r5, h⟩ := h
          obtain ⟨h9, h⟩ := h
          by_cases hc : r5 = true
          · have h10 : r5 = true := hc
            replace h := ifP hc h
            obtain ⟨r6, h⟩ := h
            obtain ⟨h11, h⟩ := h
            by_cases hc : r6 = true
            · have h12 : r6 = true := hc
              replace h := ifP hc h
              by_cases hc : (lenM (fun x => [.v (.int .i64 x)]) a0.Barred) > 64
              · have h13 : (lenM (fun x => [.v (.int .i64 x)]) a0.Barred) > 64 := hc
                replace h := ifP hc h
                exact ⟨_, .p6 r1 r2 r3 r4 r5 r6 h1 h2 h3 h4 h5 h6 h7 h8 h9 h10 h11 h12 h13, h⟩
              · have h13 : ¬ ((lenM (fun x => [.v (.int .i64 x)]) a0.Barred) > 64) := hc
                replace h := ifN hc h
                by_cases hc : a0.Least < 0
                · have h14 : a0.Least < 0 := hc
                  replace h := ifP hc h
                  exact ⟨_, .p7 r1 r2 r3 r4 r5 r6 h1 h2 h3 h4 h5 h6 h7 h8 h9 h10 h11 h12 h13 h14, h⟩
                · have h14 : ¬ (a0.Least < 0) := hc
                  replace h := ifN hc h
                  obtain ⟨r7, h⟩ := h
                  obtain ⟨h15, h⟩ := h
                  by_cases hc : r7 = true
                  · have h16 : r7 = true := hc
                    replace h := ifP hc h
                    obtain ⟨r8, h⟩ := h
                    obtain ⟨h17, h⟩ := h
                    by_cases hc : r8 = true
                    · have h18 : r8 = true := hc
                      replace h := ifP hc h
                      obtain ⟨o, hl, h⟩ := h
                      cases o with
                      | e0 =>
                        have h19 := hl
                        exact ⟨_, .p10 r1 r2 r3 r4 r5 r6 r7 r8 h1 h2 h3 h4 h5 h6 h7 h8 h9 h10 h11 h12 h13 h14 h15 h16 h17 h18 h19, h⟩
                      | e1 =>
                        have h19 := hl
                        obtain ⟨o, hl, h⟩ := h
                        cases o with
                        | e0 =>
                          have h20 := hl
                          exact ⟨_, .p11 r1 r2 r3 r4 r5 r6 r7 r8 h1 h2 h3 h4 h5 h6 h7 h8 h9 h10 h11 h12 h13 h14 h15 h16 h17 h18 h19 h20, h⟩
                        | e1 =>
                          have h20 := hl
                          exact ⟨_, .p12 r1 r2 r3 r4 r5 r6 r7 r8 h1 h2 h3 h4 h5 h6 h7 h8 h9 h10 h11 h12 h13 h14 h15 h16 h17 h18 h19 h20, h⟩
                    · have h18 : r8 = false := bfalse hc
                      replace h := ifN hc h
                      exact ⟨_, .p9 r1 r2 r3 r4 r5 r6 r7 r8 h1 h2 h3 h4 h5 h6 h7 h8 h9 h10 h11 h12 h13 h14 h15 h16 h17 h18, h⟩
                  · have h16 : r7 = false := bfalse hc
                    replace h := ifN hc h
                    exact ⟨_, .p8 r1 r2 r3 r4 r5 r6 r7 h1 h2 h3 h4 h5 h6 h7 h8 h9 h10 h11 h12 h13 h14 h15 h16, h⟩
            · have h12 : r6 = false := bfalse hc
              replace h := ifN hc h
              exact ⟨_, .p5 r1 r2 r3 r4 r5 r6 h1 h2 h3 h4 h5 h6 h7 h8 h9 h10 h11 h12, h⟩
          · have h10 : r5 = false := bfalse hc
            replace h := ifN hc h
            exact ⟨_, .p4 r1 r2 r3 r4 r5 h1 h2 h3 h4 h5 h6 h7 h8 h9 h10, h⟩
        · have h8 : r4 = false := bfalse hc
          replace h := ifN hc h
          exact ⟨_, .p3 r1 r2 r3 r4 h1 h2 h3 h4 h5 h6 h7 h8, h⟩
      · have h6 : r3 = false := bfalse hc
        replace h := ifN hc h
        exact ⟨_, .p2 r1 r2 r3 h1 h2 h3 h4 h5 h6, h⟩
    · have h4 : r2 = false := bfalse hc
      replace h := ifN hc h
      exact ⟨_, .p1 r1 r2 h1 h2 h3 h4, h⟩
  · have h2 : r1 = false := bfalse hc
    replace h := ifN hc h
    exact ⟨_, .p0 r1 h1 h2, h⟩
inductive lombardref13_Left (a0 : api_Asset) (a1 : Int) : Int → Prop
  | p0 (h1 : a1 < 0) : lombardref13_Left a0 a1 (-1)
  | p1 (h1 : ¬ (a1 < 0)) (h2 : a1 > 200000) : lombardref13_Left a0 a1 (-1)
  | p2 (h1 : ¬ (a1 < 0)) (h2 : ¬ (a1 > 200000)) (h3 : InR ((a0.Maturity - a1))) : lombardref13_Left a0 a1 (a0.Maturity - a1)
theorem lombardref13_Left_con {a0 : api_Asset} {a1 : Int} {r0_ : Int} (h : lombardref13_Left a0 a1 r0_) : Con Try.prog 38 [(.agg [(.t (str (a0.ISIN))), (.t (.v (.int .i64 (a0.Issuer)))), (.t (.v (.int .i64 (a0.Rating)))), (.t (.v (.int .i64 (a0.Maturity)))), (.t (str (a0.Currency)))]), (.t (.v (.int .i64 (a1))))] [] (fun r os => r = (.t (.v (.int .i64 (r0_)))) ∧ os = []) := by
  induction h with
  | p0 h1 =>
    have qr : ((.t (.v (.int .i64 ((-1))))) : A) = (.t (.v (.int .i64 (((-1)))))) := by first | rfl | (simp only [List.map_append, List.map_cons, List.map_nil, List.map_set, List.map_take, List.map_drop, List.map_replicate]; done)
    exact Con_run Try.call38 Try.func38 [] [.reg 1 [] [(2, .dir true)]] (by kernel_rfl) (And.intro (decide_eq_true h1) (And.intro qr (rfl : ([] : List (Nat × O)) = []))) (by kernel_rfl)
  | p1 h1 h2 =>
    have qr : ((.t (.v (.int .i64 ((-1))))) : A) = (.t (.v (.int .i64 (((-1)))))) := by first | rfl | (simp only [List.map_append, List.map_cons, List.map_nil, List.map_set, List.map_take, List.map_drop, List.map_replicate]; done)
    exact Con_run Try.call38 Try.func38 [] [.reg 1 [] [(2, .dir false)], .dir 10 true] (by kernel_rfl) (And.intro (decide_eq_false h1) (And.intro (decide_eq_true h2) (And.intro qr (rfl : ([] : List (Nat × O)) = [])))) (by kernel_rfl)
  | p2 h1 h2 h3 =>
    have qr : ((.t (.v (.int .i64 ((a0.Maturity - a1))))) : A) = (.t (.v (.int .i64 (((a0.Maturity - a1)))))) := by first | rfl | (simp only [List.map_append, List.map_cons, List.map_nil, List.map_set, List.map_take, List.map_drop, List.map_replicate]; done)
    exact Con_run Try.call38 Try.func38 [] [.reg 1 [] [(2, .dir false)], .dir 10 false, .reg 3 [] [(3, .nw)]] (by kernel_rfl) (And.intro (decide_eq_false h1) (And.intro (decide_eq_false h2) (And.intro h3 (And.intro qr (rfl : ([] : List (Nat × O)) = []))))) (by kernel_rfl)
def lombardref13_Left_wp (a0 : api_Asset) (a1 : Int) (Q : Int → Prop) : Prop := (if a1 < 0 then (Q (-1)) else ((if a1 > 200000 then (Q (-1)) else ((InR ((a0.Maturity - a1))) ∧ (Q (a0.Maturity - a1))))))
theorem lombardref13_Left_of {a0 : api_Asset} {a1 : Int} {Q : Int → Prop} (h : lombardref13_Left_wp a0 a1 Q) : ∃ (r0_ : Int), lombardref13_Left a0 a1 r0_ ∧ Q r0_ := by
  unfold lombardref13_Left_wp at h
  by_cases hc : a1 < 0
  · have h1 : a1 < 0 := hc
    replace h := ifP hc h
    exact ⟨_, .p0 h1, h⟩
  · have h1 : ¬ (a1 < 0) := hc
    replace h := ifN hc h
    by_cases hc : a1 > 200000
    · have h2 : a1 > 200000 := hc
      replace h := ifP hc h
      exact ⟨_, .p1 h1 h2, h⟩
    · have h2 : ¬ (a1 > 200000) := hc
      replace h := ifN hc h
      obtain ⟨h3, h⟩ := h
      exact ⟨_, .p2 h1 h2 h3, h⟩
inductive lombardref14_has_O0 where
  | e0
  | e1
inductive lombardref14_has_L0 (a0 : (List Int)) (a1 : Int) : Int → lombardref14_has_O0 → Prop
  | p0 (s0_0 : Int) (xa1 : Int) (h1 : s0_0 < (lenM (fun x => [.v (.int .i64 x)]) a0)) (h2 : 0 ≤ s0_0) (h3 : a0[(s0_0).toNat]? = some xa1) (h4 : xa1 = a1) : lombardref14_has_L0 a0 a1 s0_0 (.e0)
  | p1 (s0_0 : Int) (xa1 : Int) {o : lombardref14_has_O0} (h1 : s0_0 < (lenM (fun x => [.v (.int .i64 x)]) a0)) (h2 : 0 ≤ s0_0) (h3 : a0[(s0_0).toNat]? = some xa1) (h4 : xa1 ≠ a1) (h5 : InR ((s0_0 + 1))) (hr : lombardref14_has_L0 a0 a1 (s0_0 + 1) o) : lombardref14_has_L0 a0 a1 s0_0 o
  | p2 (s0_0 : Int) (h1 : ¬ (s0_0 < (lenM (fun x => [.v (.int .i64 x)]) a0))) : lombardref14_has_L0 a0 a1 s0_0 (.e1)
inductive lombardref14_has (a0 : (List Int)) (a1 : Int) : Bool → Prop
  | p0 (h1 : lombardref14_has_L0 a0 a1 0 (.e0)) : lombardref14_has a0 a1 true
  | p1 (h1 : lombardref14_has_L0 a0 a1 0 (.e1)) : lombardref14_has a0 a1 false
def lombardref14_has_s0 (a0 : (List Int)) (a1 : Int) (s0_0 : Int) : St := mkSt [(0, (.t (.sl 1 ((a0 : List Int).map (fun x => [.v (.int .i64 x)]))))), (1, (.t (.v (.int .i64 (a1))))), (5, (.t (.v (.int .i64 (s0_0)))))] [] []
def lombardref14_has_oe0 : lombardref14_has_O0 → Exit
  | .e0 => .ret
  | .e1 => .exit 0
def lombardref14_has_op0 : lombardref14_has_O0 → List Prep
  | .e0 => [.keep [4] []]
  | .e1 => [.keep [] []]
def lombardref14_has_os0 (a0 : (List Int)) (a1 : Int) : lombardref14_has_O0 → St
  | .e0 => mkSt [(4, (.t (boo (true))))] [] []
  | .e1 => mkSt [] [] []
theorem lombardref14_has_l0 {a0 : (List Int)} {a1 : Int} {s0_0 : Int} {o : lombardref14_has_O0} (h : lombardref14_has_L0 a0 a1 s0_0 o) : LW Try.prog 18 (loopAt Try.f39 0) (At (lombardref14_has_oe0 o) (lombardref14_has_op0 o) (lombardref14_has_os0 a0 a1 o)) (lombardref14_has_s0 a0 a1 s0_0) := by
  induction h with
  | p0 s0_0 xa1 h1 h2 h3 h4 =>
    have qe : mkSt [(4, (.t (boo (true))))] [] [] = lombardref14_has_os0 a0 a1 (.e0) := by first | rfl | (simp only [lombardref14_has_os0, List.map_append, List.map_cons, List.map_nil, List.map_set, List.map_take, List.map_drop, List.map_replicate]; done)
    exact LW_run [.dir 9 true, .reg 4 [] [(2, .row (s0_0).toNat [(.v (.int .i64 (xa1)))])], .dir 17 true] [] (And.intro (decide_eq_true h1) (And.intro (And.intro (Int.toNat_of_nonneg h2).symm (get_map (f := (fun x => [.v (.int .i64 x)])) h3)) (And.intro (beq_iff_eq.2 h4) (And.intro (rfl : (.ret : Exit) = .ret) qe)))) (by kernel_rfl)
  | p1 s0_0 xa1 h1 h2 h3 h4 h5 hr ih =>
    (try simp only [lombardref14_has_s0, List.map_append, List.map_cons, List.map_nil, List.map_set, List.map_take, List.map_drop, List.map_replicate] at ih)
    exact LW_run [.dir 9 true, .reg 4 [] [(2, .row (s0_0).toNat [(.v (.int .i64 (xa1)))])], .dir 17 false, .reg 3 [] [(1, .nw)]] [.keep [0, 1, 5] []] (And.intro (decide_eq_true h1) (And.intro (And.intro (Int.toNat_of_nonneg h2).symm (get_map (f := (fun x => [.v (.int .i64 x)])) h3)) (And.intro (beq_eq_false_iff_ne.2 h4) (And.intro h5 ih)))) (by kernel_rfl)
  | p2 s0_0 h1 =>
    have qe : mkSt [] [] [] = lombardref14_has_os0 a0 a1 (.e1) := by first | rfl | (simp only [lombardref14_has_os0, List.map_append, List.map_cons, List.map_nil, List.map_set, List.map_take, List.map_drop, List.map_replicate]; done)
    exact LW_run [.dir 9 false] [] (And.intro (decide_eq_false h1) (And.intro (rfl : ((.exit 0) : Exit) = (.exit 0)) qe)) (by kernel_rfl)
def lombardref14_has_w0 (a0 : (List Int)) (a1 : Int) (s0_0 : Int) (Q : lombardref14_has_O0 → Prop) : Prop := (if s0_0 < (lenM (fun x => [.v (.int .i64 x)]) a0) then ((0 ≤ s0_0) ∧ (∃ xa1 : Int, (a0[(s0_0).toNat]? = some xa1) ∧ ((if xa1 = a1 then (Q (.e0)) else ((InR ((s0_0 + 1))) ∧ (∃ o, lombardref14_has_L0 a0 a1 (s0_0 + 1) o ∧ Q o)))))) else (Q (.e1)))
theorem lombardref14_has_of0 {a0 : (List Int)} {a1 : Int} {s0_0 : Int} {Q : lombardref14_has_O0 → Prop} (h : lombardref14_has_w0 a0 a1 s0_0 Q) : ∃ o, lombardref14_has_L0 a0 a1 s0_0 o ∧ Q o := by
  unfold lombardref14_has_w0 at h
  by_cases hc : s0_0 < (lenM (fun x => [.v (.int .i64 x)]) a0)
  · have h1 : s0_0 < (lenM (fun x => [.v (.int .i64 x)]) a0) := hc
    replace h := ifP hc h
    obtain ⟨h2, h⟩ := h
    obtain ⟨xa1, h⟩ := h
    obtain ⟨h3, h⟩ := h
    by_cases hc : xa1 = a1
    · have h4 : xa1 = a1 := hc
      replace h := ifP hc h
      exact ⟨_, .p0 s0_0 xa1 h1 h2 h3 h4, h⟩
    · have h4 : xa1 ≠ a1 := hc
      replace h := ifN hc h
      obtain ⟨h5, h⟩ := h
      obtain ⟨o, hr, h⟩ := h; exact ⟨o, .p1 s0_0 xa1 h1 h2 h3 h4 h5 hr, h⟩
  · have h1 : ¬ (s0_0 < (lenM (fun x => [.v (.int .i64 x)]) a0)) := hc
    replace h := ifN hc h
    exact ⟨_, .p2 s0_0 h1, h⟩
theorem lombardref14_has_con {a0 : (List Int)} {a1 : Int} {r0_ : Bool} (h : lombardref14_has a0 a1 r0_) : Con Try.prog 39 [(.t (.sl 1 ((a0 : List Int).map (fun x => [.v (.int .i64 x)])))), (.t (.v (.int .i64 (a1))))] [] (fun r os => r = (.t (boo (r0_))) ∧ os = []) := by
  induction h with
  | p0 h1 =>
    have q1 := lombardref14_has_l0 h1
    (try simp only [lombardref14_has_s0, List.map_append, List.map_cons, List.map_nil, List.map_set, List.map_take, List.map_drop, List.map_replicate] at q1)
    have qr : ((.t (boo (true))) : A) = (.t (boo (true))) := by first | rfl | (simp only [List.map_append, List.map_cons, List.map_nil, List.map_set, List.map_take, List.map_drop, List.map_replicate]; done)
    exact Con_run Try.call39 Try.func39 [] [.blk 0 [.keep [0, 1, 5] []], .loop .ret [.keep [4] []] (lombardref14_has_os0 a0 a1 (.e0))] (by kernel_rfl) (And.intro q1 (And.intro qr (rfl : ([] : List (Nat × O)) = []))) (by kernel_rfl)
  | p1 h1 =>
    have q1 := lombardref14_has_l0 h1
    (try simp only [lombardref14_has_s0, List.map_append, List.map_cons, List.map_nil, List.map_set, List.map_take, List.map_drop, List.map_replicate] at q1)
    have qr : ((.t (boo (false))) : A) = (.t (boo (false))) := by first | rfl | (simp only [List.map_append, List.map_cons, List.map_nil, List.map_set, List.map_take, List.map_drop, List.map_replicate]; done)
    exact Con_run Try.call39 Try.func39 [] [.blk 0 [.keep [0, 1, 5] []], .loop (.exit 0) [.keep [] []] (lombardref14_has_os0 a0 a1 (.e1))] (by kernel_rfl) (And.intro q1 (And.intro qr (rfl : ([] : List (Nat × O)) = []))) (by kernel_rfl)
def lombardref14_has_wp (a0 : (List Int)) (a1 : Int) (Q : Bool → Prop) : Prop := ∃ o, lombardref14_has_L0 a0 a1 0 o ∧ (match o with | .e0 => (Q true) | .e1 => (Q false))
theorem lombardref14_has_of {a0 : (List Int)} {a1 : Int} {Q : Bool → Prop} (h : lombardref14_has_wp a0 a1 Q) : ∃ (r0_ : Bool), lombardref14_has a0 a1 r0_ ∧ Q r0_ := by
  unfold lombardref14_has_wp at h
  obtain ⟨o, hl, h⟩ := h
  cases o with
  | e0 =>
    have h1 := hl
    exact ⟨_, .p0 h1, h⟩
  | e1 =>
    have h1 := hl
    exact ⟨_, .p1 h1, h⟩
inductive lombardref14_Why (a0 : api_Basket) (a1 : api_Asset) (a2 : Int) : Int → Prop
  | p0 (h1 : a1.Currency ≠ a0.Currency) : lombardref14_Why a0 a1 a2 1
  | p1 (h1 : a1.Currency = a0.Currency) (h2 : a1.Rating > a0.Rating) : lombardref14_Why a0 a1 a2 2
  | p2 (r1 : Int) (h1 : a1.Currency = a0.Currency) (h2 : ¬ (a1.Rating > a0.Rating)) (h3 : lombardref13_Left a1 a2 r1) (h4 : r1 < 1) : lombardref14_Why a0 a1 a2 3
  | p3 (r1 : Int) (h1 : a1.Currency = a0.Currency) (h2 : ¬ (a1.Rating > a0.Rating)) (h3 : lombardref13_Left a1 a2 r1) (h4 : ¬ (r1 < 1)) (h5 : r1 < a0.Least) : lombardref14_Why a0 a1 a2 3
  | p4 (r1 : Int) (h1 : a1.Currency = a0.Currency) (h2 : ¬ (a1.Rating > a0.Rating)) (h3 : lombardref13_Left a1 a2 r1) (h4 : ¬ (r1 < 1)) (h5 : ¬ (r1 < a0.Least)) (h6 : r1 > a0.Most) : lombardref14_Why a0 a1 a2 4
  | p5 (r1 : Int) (r2 : Bool) (h1 : a1.Currency = a0.Currency) (h2 : ¬ (a1.Rating > a0.Rating)) (h3 : lombardref13_Left a1 a2 r1) (h4 : ¬ (r1 < 1)) (h5 : ¬ (r1 < a0.Least)) (h6 : ¬ (r1 > a0.Most)) (h7 : lombardref14_has a0.Barred a1.Issuer r2) (h8 : r2 = true) : lombardref14_Why a0 a1 a2 5
  | p6 (r1 : Int) (r2 : Bool) (h1 : a1.Currency = a0.Currency) (h2 : ¬ (a1.Rating > a0.Rating)) (h3 : lombardref13_Left a1 a2 r1) (h4 : ¬ (r1 < 1)) (h5 : ¬ (r1 < a0.Least)) (h6 : ¬ (r1 > a0.Most)) (h7 : lombardref14_has a0.Barred a1.Issuer r2) (h8 : r2 = false) : lombardref14_Why a0 a1 a2 0
theorem lombardref14_Why_con {a0 : api_Basket} {a1 : api_Asset} {a2 : Int} {r0_ : Int} (h : lombardref14_Why a0 a1 a2 r0_) : Con Try.prog 15 [(.agg [(.t (.v (.int .i64 (a0.ID)))), (.t (.v (.int .i64 (a0.Version)))), (.t (str (a0.Currency))), (.t (.v (.int .i64 (a0.Rating)))), (.t (.v (.int .i64 (a0.Least)))), (.t (.v (.int .i64 (a0.Most)))), (.t (.sl 3 ((a0.Cuts : List api_Cut).map api_Cut.enc))), (.t (.v (.int .i64 (a0.Issuer)))), (.t (.v (.int .i64 (a0.Asset)))), (.t (.sl 1 ((a0.Barred : List Int).map (fun x => [.v (.int .i64 x)]))))]), (.agg [(.t (str (a1.ISIN))), (.t (.v (.int .i64 (a1.Issuer)))), (.t (.v (.int .i64 (a1.Rating)))), (.t (.v (.int .i64 (a1.Maturity)))), (.t (str (a1.Currency)))]), (.t (.v (.int .i64 (a2))))] [] (fun r os => r = (.t (.v (.int .i64 (r0_)))) ∧ os = []) := by
  induction h with
  | p0 h1 =>
    have qr : ((.t (.v (.int .i64 (1)))) : A) = (.t (.v (.int .i64 (1)))) := by first | rfl | (simp only [List.map_append, List.map_cons, List.map_nil, List.map_set, List.map_take, List.map_drop, List.map_replicate]; done)
    exact Con_run Try.call15 Try.func15 [] [.dir 12 true] (by kernel_rfl) (And.intro (strNe_true h1) (And.intro qr (rfl : ([] : List (Nat × O)) = []))) (by kernel_rfl)
  | p1 h1 h2 =>
    have qr : ((.t (.v (.int .i64 (2)))) : A) = (.t (.v (.int .i64 (2)))) := by first | rfl | (simp only [List.map_append, List.map_cons, List.map_nil, List.map_set, List.map_take, List.map_drop, List.map_replicate]; done)
    exact Con_run Try.call15 Try.func15 [] [.dir 12 false, .dir 17 true] (by kernel_rfl) (And.intro (strNe_false h1) (And.intro (decide_eq_true h2) (And.intro qr (rfl : ([] : List (Nat × O)) = [])))) (by kernel_rfl)
  | p2 r1 h1 h2 h3 h4 =>
    have qr : ((.t (.v (.int .i64 (3)))) : A) = (.t (.v (.int .i64 (3)))) := by first | rfl | (simp only [List.map_append, List.map_cons, List.map_nil, List.map_set, List.map_take, List.map_drop, List.map_replicate]; done)
    exact Con_run Try.call15 Try.func15 [] [.dir 12 false, .dir 17 false, .reg 5 [] [(2, .call [] (.t (.v (.int .i64 (r1)))) [])], .reg 6 [] [(2, .dir true)]] (by kernel_rfl) (And.intro (strNe_false h1) (And.intro (decide_eq_false h2) (And.intro (lombardref13_Left_con h3) (And.intro (decide_eq_true h4) (And.intro qr (rfl : ([] : List (Nat × O)) = [])))))) (by kernel_rfl)
  | p3 r1 h1 h2 h3 h4 h5 =>
    have qr : ((.t (.v (.int .i64 (3)))) : A) = (.t (.v (.int .i64 (3)))) := by first | rfl | (simp only [List.map_append, List.map_cons, List.map_nil, List.map_set, List.map_take, List.map_drop, List.map_replicate]; done)
    exact Con_run Try.call15 Try.func15 [] [.dir 12 false, .dir 17 false, .reg 5 [] [(2, .call [] (.t (.v (.int .i64 (r1)))) [])], .reg 6 [] [(2, .dir false)], .dir 28 true] (by kernel_rfl) (And.intro (strNe_false h1) (And.intro (decide_eq_false h2) (And.intro (lombardref13_Left_con h3) (And.intro (decide_eq_false h4) (And.intro (decide_eq_true h5) (And.intro qr (rfl : ([] : List (Nat × O)) = []))))))) (by kernel_rfl)
  | p4 r1 h1 h2 h3 h4 h5 h6 =>
    have qr : ((.t (.v (.int .i64 (4)))) : A) = (.t (.v (.int .i64 (4)))) := by first | rfl | (simp only [List.map_append, List.map_cons, List.map_nil, List.map_set, List.map_take, List.map_drop, List.map_replicate]; done)
    exact Con_run Try.call15 Try.func15 [] [.dir 12 false, .dir 17 false, .reg 5 [] [(2, .call [] (.t (.v (.int .i64 (r1)))) [])], .reg 6 [] [(2, .dir false)], .dir 28 false, .dir 32 true] (by kernel_rfl) (And.intro (strNe_false h1) (And.intro (decide_eq_false h2) (And.intro (lombardref13_Left_con h3) (And.intro (decide_eq_false h4) (And.intro (decide_eq_false h5) (And.intro (decide_eq_true h6) (And.intro qr (rfl : ([] : List (Nat × O)) = [])))))))) (by kernel_rfl)
  | p5 r1 r2 h1 h2 h3 h4 h5 h6 h7 h8 =>
    have qr : ((.t (.v (.int .i64 (5)))) : A) = (.t (.v (.int .i64 (5)))) := by first | rfl | (simp only [List.map_append, List.map_cons, List.map_nil, List.map_set, List.map_take, List.map_drop, List.map_replicate]; done)
    exact Con_run Try.call15 Try.func15 [] [.dir 12 false, .dir 17 false, .reg 5 [] [(2, .call [] (.t (.v (.int .i64 (r1)))) [])], .reg 6 [] [(2, .dir false)], .dir 28 false, .dir 32 false, .reg 10 [] [(4, .call [] (.t (boo (r2))) [])], .dir 37 true] (by kernel_rfl) (And.intro (strNe_false h1) (And.intro (decide_eq_false h2) (And.intro (lombardref13_Left_con h3) (And.intro (decide_eq_false h4) (And.intro (decide_eq_false h5) (And.intro (decide_eq_false h6) (And.intro (lombardref14_has_con h7) (And.intro h8 (And.intro qr (rfl : ([] : List (Nat × O)) = [])))))))))) (by kernel_rfl)
  | p6 r1 r2 h1 h2 h3 h4 h5 h6 h7 h8 =>
    have qr : ((.t (.v (.int .i64 (0)))) : A) = (.t (.v (.int .i64 (0)))) := by first | rfl | (simp only [List.map_append, List.map_cons, List.map_nil, List.map_set, List.map_take, List.map_drop, List.map_replicate]; done)
    exact Con_run Try.call15 Try.func15 [] [.dir 12 false, .dir 17 false, .reg 5 [] [(2, .call [] (.t (.v (.int .i64 (r1)))) [])], .reg 6 [] [(2, .dir false)], .dir 28 false, .dir 32 false, .reg 10 [] [(4, .call [] (.t (boo (r2))) [])], .dir 37 false] (by kernel_rfl) (And.intro (strNe_false h1) (And.intro (decide_eq_false h2) (And.intro (lombardref13_Left_con h3) (And.intro (decide_eq_false h4) (And.intro (decide_eq_false h5) (And.intro (decide_eq_false h6) (And.intro (lombardref14_has_con h7) (And.intro h8 (And.intro qr (rfl : ([] : List (Nat × O)) = [])))))))))) (by kernel_rfl)
def lombardref14_Why_wp (a0 : api_Basket) (a1 : api_Asset) (a2 : Int) (Q : Int → Prop) : Prop := (if a1.Currency = a0.Currency then ((if a1.Rating > a0.Rating then (Q 2) else (∃ r1 : Int, (lombardref13_Left a1 a2 r1) ∧ ((if r1 < 1 then (Q 3) else ((if r1 < a0.Least then (Q 3) else ((if r1 > a0.Most then (Q 4) else (∃ r2 : Bool, (lombardref14_has a0.Barred a1.Issuer r2) ∧ ((if r2 = true then (Q 5) else (Q 0))))))))))))) else (Q 1))
theorem lombardref14_Why_of {a0 : api_Basket} {a1 : api_Asset} {a2 : Int} {Q : Int → Prop} (h : lombardref14_Why_wp a0 a1 a2 Q) : ∃ (r0_ : Int), lombardref14_Why a0 a1 a2 r0_ ∧ Q r0_ := by
  unfold lombardref14_Why_wp at h
  by_cases hc : a1.Currency = a0.Currency
  · have h1 : a1.Currency = a0.Currency := hc
    replace h := ifP hc h
    by_cases hc : a1.Rating > a0.Rating
    · have h2 : a1.Rating > a0.Rating := hc
      replace h := ifP hc h
      exact ⟨_, .p1 h1 h2, h⟩
    · have h2 : ¬ (a1.Rating > a0.Rating) := hc
      replace h := ifN hc h
      obtain ⟨r1, h⟩ := h
      obtain ⟨h3, h⟩ := h
      by_cases hc : r1 < 1
      · have h4 : r1 < 1 := hc
        replace h := ifP hc h
        exact ⟨_, .p2 r1 h1 h2 h3 h4, h⟩
      · have h4 : ¬ (r1 < 1) := hc
        replace h := ifN hc h
        by_cases hc : r1 < a0.Least
        · have h5 : r1 < a0.Least := hc
          replace h := ifP hc h
          exact ⟨_, .p3 r1 h1 h2 h3 h4 h5, h⟩
        · have h5 : ¬ (r1 < a0.Least) := hc
          replace h := ifN hc h
          by_cases hc : r1 > a0.Most
          · have h6 : r1 > a0.Most := hc
            replace h := ifP hc h
            exact ⟨_, .p4 r1 h1 h2 h3 h4 h5 h6, h⟩
          · have h6 : ¬ (r1 > a0.Most) := hc
            replace h := ifN hc h
            obtain ⟨r2, h⟩ := h
            obtain ⟨h7, h⟩ := h
            by_cases hc : r2 = true
            · have h8 : r2 = true := hc
              replace h := ifP hc h
              exact ⟨_, .p5 r1 r2 h1 h2 h3 h4 h5 h6 h7 h8, h⟩
            · have h8 : r2 = false := bfalse hc
              replace h := ifN hc h
              exact ⟨_, .p6 r1 r2 h1 h2 h3 h4 h5 h6 h7 h8, h⟩
  · have h1 : a1.Currency ≠ a0.Currency := hc
    replace h := ifN hc h
    exact ⟨_, .p0 h1, h⟩
inductive asset_Left (a0 : api_Asset) (a1 : Int) : Int → Prop
  | p0 (h1 : a1 < 0) : asset_Left a0 a1 (-1)
  | p1 (h1 : ¬ (a1 < 0)) (h2 : a1 > 200000) : asset_Left a0 a1 (-1)
  | p2 (h1 : ¬ (a1 < 0)) (h2 : ¬ (a1 > 200000)) (h3 : InR ((a0.Maturity - a1))) : asset_Left a0 a1 (a0.Maturity - a1)
theorem asset_Left_con {a0 : api_Asset} {a1 : Int} {r0_ : Int} (h : asset_Left a0 a1 r0_) : Con Try.prog 40 [(.agg [(.t (str (a0.ISIN))), (.t (.v (.int .i64 (a0.Issuer)))), (.t (.v (.int .i64 (a0.Rating)))), (.t (.v (.int .i64 (a0.Maturity)))), (.t (str (a0.Currency)))]), (.t (.v (.int .i64 (a1))))] [] (fun r os => r = (.t (.v (.int .i64 (r0_)))) ∧ os = []) := by
  induction h with
  | p0 h1 =>
    have qr : ((.t (.v (.int .i64 ((-1))))) : A) = (.t (.v (.int .i64 (((-1)))))) := by first | rfl | (simp only [List.map_append, List.map_cons, List.map_nil, List.map_set, List.map_take, List.map_drop, List.map_replicate]; done)
    exact Con_run Try.call40 Try.func40 [] [.reg 1 [] [(2, .dir true)]] (by kernel_rfl) (And.intro (decide_eq_true h1) (And.intro qr (rfl : ([] : List (Nat × O)) = []))) (by kernel_rfl)
  | p1 h1 h2 =>
    have qr : ((.t (.v (.int .i64 ((-1))))) : A) = (.t (.v (.int .i64 (((-1)))))) := by first | rfl | (simp only [List.map_append, List.map_cons, List.map_nil, List.map_set, List.map_take, List.map_drop, List.map_replicate]; done)
    exact Con_run Try.call40 Try.func40 [] [.reg 1 [] [(2, .dir false)], .dir 10 true] (by kernel_rfl) (And.intro (decide_eq_false h1) (And.intro (decide_eq_true h2) (And.intro qr (rfl : ([] : List (Nat × O)) = [])))) (by kernel_rfl)
  | p2 h1 h2 h3 =>
    have qr : ((.t (.v (.int .i64 ((a0.Maturity - a1))))) : A) = (.t (.v (.int .i64 (((a0.Maturity - a1)))))) := by first | rfl | (simp only [List.map_append, List.map_cons, List.map_nil, List.map_set, List.map_take, List.map_drop, List.map_replicate]; done)
    exact Con_run Try.call40 Try.func40 [] [.reg 1 [] [(2, .dir false)], .dir 10 false, .reg 3 [] [(3, .nw)]] (by kernel_rfl) (And.intro (decide_eq_false h1) (And.intro (decide_eq_false h2) (And.intro h3 (And.intro qr (rfl : ([] : List (Nat × O)) = []))))) (by kernel_rfl)
def asset_Left_wp (a0 : api_Asset) (a1 : Int) (Q : Int → Prop) : Prop := (if a1 < 0 then (Q (-1)) else ((if a1 > 200000 then (Q (-1)) else ((InR ((a0.Maturity - a1))) ∧ (Q (a0.Maturity - a1))))))
theorem asset_Left_of {a0 : api_Asset} {a1 : Int} {Q : Int → Prop} (h : asset_Left_wp a0 a1 Q) : ∃ (r0_ : Int), asset_Left a0 a1 r0_ ∧ Q r0_ := by
  unfold asset_Left_wp at h
  by_cases hc : a1 < 0
  · have h1 : a1 < 0 := hc
    replace h := ifP hc h
    exact ⟨_, .p0 h1, h⟩
  · have h1 : ¬ (a1 < 0) := hc
    replace h := ifN hc h
    by_cases hc : a1 > 200000
    · have h2 : a1 > 200000 := hc
      replace h := ifP hc h
      exact ⟨_, .p1 h1 h2, h⟩
    · have h2 : ¬ (a1 > 200000) := hc
      replace h := ifN hc h
      obtain ⟨h3, h⟩ := h
      exact ⟨_, .p2 h1 h2 h3, h⟩
inductive cmp_isNaN_int (a0 : Int) : Bool → Prop
  | p0 : cmp_isNaN_int a0 (a0 != a0)
theorem cmp_isNaN_int_con {a0 : Int} {r0_ : Bool} (h : cmp_isNaN_int a0 r0_) : Con Try.prog 53 [(.t (.v (.int .i64 (a0))))] [] (fun r os => r = (.t (boo (r0_))) ∧ os = []) := by
  induction h with
  | p0  =>
    have qr : ((.t (boo ((a0 != a0)))) : A) = (.t (boo (((a0 != a0))))) := by first | rfl | (simp only [List.map_append, List.map_cons, List.map_nil, List.map_set, List.map_take, List.map_drop, List.map_replicate]; done)
    exact Con_run Try.call53 Try.func53 [] [] (by kernel_rfl) (And.intro qr (rfl : ([] : List (Nat × O)) = [])) (by kernel_rfl)
def cmp_isNaN_int_wp (a0 : Int) (Q : Bool → Prop) : Prop := Q (a0 != a0)
theorem cmp_isNaN_int_of {a0 : Int} {Q : Bool → Prop} (h : cmp_isNaN_int_wp a0 Q) : ∃ (r0_ : Bool), cmp_isNaN_int a0 r0_ ∧ Q r0_ := by
  unfold cmp_isNaN_int_wp at h
  exact ⟨_, .p0 , h⟩
inductive cmp_Less_int (a0 : Int) (a1 : Int) : Bool → Prop
  | p0 (r1 : Bool) (r2 : Bool) (h1 : cmp_isNaN_int a0 r1) (h2 : r1 = true) (h3 : cmp_isNaN_int a1 r2) (h4 : r2 = false) : cmp_Less_int a0 a1 true
  | p1 (r1 : Bool) (r2 : Bool) (h1 : cmp_isNaN_int a0 r1) (h2 : r1 = true) (h3 : cmp_isNaN_int a1 r2) (h4 : r2 = true) : cmp_Less_int a0 a1 (decide (a0 < a1))
  | p2 (r1 : Bool) (h1 : cmp_isNaN_int a0 r1) (h2 : r1 = false) : cmp_Less_int a0 a1 (decide (a0 < a1))
theorem cmp_Less_int_con {a0 : Int} {a1 : Int} {r0_ : Bool} (h : cmp_Less_int a0 a1 r0_) : Con Try.prog 49 [(.t (.v (.int .i64 (a0)))), (.t (.v (.int .i64 (a1))))] [] (fun r os => r = (.t (boo (r0_))) ∧ os = []) := by
  induction h with
  | p0 r1 r2 h1 h2 h3 h4 =>
    have qr : ((.t (boo (true))) : A) = (.t (boo (true))) := by first | rfl | (simp only [List.map_append, List.map_cons, List.map_nil, List.map_set, List.map_take, List.map_drop, List.map_replicate]; done)
    exact Con_run Try.call49 Try.func49 [] [.reg 1 [] [(1, .call [] (.t (boo (r1))) []), (2, .dir true), (4, .call [] (.t (boo (r2))) []), (7, .dir true)]] (by kernel_rfl) (And.intro (And.intro (cmp_isNaN_int_con h1) (And.intro h2 (And.intro (cmp_isNaN_int_con h3) (congrArg Bool.not (h4))))) (And.intro qr (rfl : ([] : List (Nat × O)) = []))) (by kernel_rfl)
  | p1 r1 r2 h1 h2 h3 h4 =>
    have qr : ((.t (boo ((decide (a0 < a1))))) : A) = (.t (boo (((decide (a0 < a1)))))) := by first | rfl | (simp only [List.map_append, List.map_cons, List.map_nil, List.map_set, List.map_take, List.map_drop, List.map_replicate]; done)
    exact Con_run Try.call49 Try.func49 [] [.reg 1 [] [(1, .call [] (.t (boo (r1))) []), (2, .dir true), (4, .call [] (.t (boo (r2))) []), (7, .dir false)]] (by kernel_rfl) (And.intro (And.intro (cmp_isNaN_int_con h1) (And.intro h2 (And.intro (cmp_isNaN_int_con h3) (congrArg Bool.not (h4))))) (And.intro qr (rfl : ([] : List (Nat × O)) = []))) (by kernel_rfl)
  | p2 r1 h1 h2 =>
    have qr : ((.t (boo ((decide (a0 < a1))))) : A) = (.t (boo (((decide (a0 < a1)))))) := by first | rfl | (simp only [List.map_append, List.map_cons, List.map_nil, List.map_set, List.map_take, List.map_drop, List.map_replicate]; done)
    exact Con_run Try.call49 Try.func49 [] [.reg 1 [] [(1, .call [] (.t (boo (r1))) []), (2, .dir false)]] (by kernel_rfl) (And.intro (And.intro (cmp_isNaN_int_con h1) h2) (And.intro qr (rfl : ([] : List (Nat × O)) = []))) (by kernel_rfl)
def cmp_Less_int_wp (a0 : Int) (a1 : Int) (Q : Bool → Prop) : Prop := ∃ r1 : Bool, (cmp_isNaN_int a0 r1) ∧ ((if r1 = true then (∃ r2 : Bool, (cmp_isNaN_int a1 r2) ∧ ((if r2 = true then (Q (decide (a0 < a1))) else (Q true)))) else (Q (decide (a0 < a1)))))
theorem cmp_Less_int_of {a0 : Int} {a1 : Int} {Q : Bool → Prop} (h : cmp_Less_int_wp a0 a1 Q) : ∃ (r0_ : Bool), cmp_Less_int a0 a1 r0_ ∧ Q r0_ := by
  unfold cmp_Less_int_wp at h
  obtain ⟨r1, h⟩ := h
  obtain ⟨h1, h⟩ := h
  by_cases hc : r1 = true
  · have h2 : r1 = true := hc
    replace h := ifP hc h
    obtain ⟨r2, h⟩ := h
    obtain ⟨h3, h⟩ := h
    by_cases hc : r2 = true
    · have h4 : r2 = true := hc
      replace h := ifP hc h
      exact ⟨_, .p1 r1 r2 h1 h2 h3 h4, h⟩
    · have h4 : r2 = false := bfalse hc
      replace h := ifN hc h
      exact ⟨_, .p0 r1 r2 h1 h2 h3 h4, h⟩
  · have h2 : r1 = false := bfalse hc
    replace h := ifN hc h
    exact ⟨_, .p2 r1 h1 h2, h⟩
inductive slices_isNaN_int (a0 : Int) : Bool → Prop
  | p0 : slices_isNaN_int a0 (a0 != a0)
theorem slices_isNaN_int_con {a0 : Int} {r0_ : Bool} (h : slices_isNaN_int a0 r0_) : Con Try.prog 50 [(.t (.v (.int .i64 (a0))))] [] (fun r os => r = (.t (boo (r0_))) ∧ os = []) := by
  induction h with
  | p0  =>
    have qr : ((.t (boo ((a0 != a0)))) : A) = (.t (boo (((a0 != a0))))) := by first | rfl | (simp only [List.map_append, List.map_cons, List.map_nil, List.map_set, List.map_take, List.map_drop, List.map_replicate]; done)
    exact Con_run Try.call50 Try.func50 [] [] (by kernel_rfl) (And.intro qr (rfl : ([] : List (Nat × O)) = [])) (by kernel_rfl)
def slices_isNaN_int_wp (a0 : Int) (Q : Bool → Prop) : Prop := Q (a0 != a0)
theorem slices_isNaN_int_of {a0 : Int} {Q : Bool → Prop} (h : slices_isNaN_int_wp a0 Q) : ∃ (r0_ : Bool), slices_isNaN_int a0 r0_ ∧ Q r0_ := by
  unfold slices_isNaN_int_wp at h
  exact ⟨_, .p0 , h⟩
inductive slices_BinarySearch_int_int_O0 where
  | e0 (y0 : Int)
inductive slices_BinarySearch_int_int_L0 (a0 : (List Int)) (a1 : Int) : Int → Int → slices_BinarySearch_int_int_O0 → Prop
  | p0 (s0_0 : Int) (s0_1 : Int) (xa1 : Int) (ra2 : Bool) {o : slices_BinarySearch_int_int_O0} (h1 : s0_0 < s0_1) (h2 : InR ((s0_0 + s0_1))) (h3 : InK .u64 ((s0_0 + s0_1))) (h4 : InR ((Int.fdiv (s0_0 + s0_1) 2))) (h5 : 0 ≤ (Int.fdiv (s0_0 + s0_1) 2)) (h6 : a0[((Int.fdiv (s0_0 + s0_1) 2)).toNat]? = some xa1) (h7 : cmp_Less_int xa1 a1 ra2) (h8 : ra2 = true) (h9 : InR (((Int.fdiv (s0_0 + s0_1) 2) + 1))) (hr : slices_BinarySearch_int_int_L0 a0 a1 ((Int.fdiv (s0_0 + s0_1) 2) + 1) s0_1 o) : slices_BinarySearch_int_int_L0 a0 a1 s0_0 s0_1 o
  | p1 (s0_0 : Int) (s0_1 : Int) (xa1 : Int) (ra2 : Bool) {o : slices_BinarySearch_int_int_O0} (h1 : s0_0 < s0_1) (h2 : InR ((s0_0 + s0_1))) (h3 : InK .u64 ((s0_0 + s0_1))) (h4 : InR ((Int.fdiv (s0_0 + s0_1) 2))) (h5 : 0 ≤ (Int.fdiv (s0_0 + s0_1) 2)) (h6 : a0[((Int.fdiv (s0_0 + s0_1) 2)).toNat]? = some xa1) (h7 : cmp_Less_int xa1 a1 ra2) (h8 : ra2 = false) (hr : slices_BinarySearch_int_int_L0 a0 a1 s0_0 (Int.fdiv (s0_0 + s0_1) 2) o) : slices_BinarySearch_int_int_L0 a0 a1 s0_0 s0_1 o
  | p2 (s0_0 : Int) (s0_1 : Int) (h1 : ¬ (s0_0 < s0_1)) : slices_BinarySearch_int_int_L0 a0 a1 s0_0 s0_1 (.e0 s0_0)
inductive slices_BinarySearch_int_int (a0 : (List Int)) (a1 : Int) : Int → Bool → Prop
  | p0 (y1 : Int) (x2 : Int) (h1 : slices_BinarySearch_int_int_L0 a0 a1 0 (lenM (fun x => [.v (.int .i64 x)]) a0) (.e0 y1)) (h2 : y1 < (lenM (fun x => [.v (.int .i64 x)]) a0)) (h3 : 0 ≤ y1) (h4 : a0[(y1).toNat]? = some x2) (h5 : x2 = a1) : slices_BinarySearch_int_int a0 a1 (id y1) true
  | p1 (y1 : Int) (x2 : Int) (r3 : Bool) (r4 : Bool) (h1 : slices_BinarySearch_int_int_L0 a0 a1 0 (lenM (fun x => [.v (.int .i64 x)]) a0) (.e0 y1)) (h2 : y1 < (lenM (fun x => [.v (.int .i64 x)]) a0)) (h3 : 0 ≤ y1) (h4 : a0[(y1).toNat]? = some x2) (h5 : x2 ≠ a1) (h6 : slices_isNaN_int x2 r3) (h7 : r3 = true) (h8 : slices_isNaN_int a1 r4) : slices_BinarySearch_int_int a0 a1 (id y1) (id r4)
  | p2 (y1 : Int) (x2 : Int) (r3 : Bool) (h1 : slices_BinarySearch_int_int_L0 a0 a1 0 (lenM (fun x => [.v (.int .i64 x)]) a0) (.e0 y1)) (h2 : y1 < (lenM (fun x => [.v (.int .i64 x)]) a0)) (h3 : 0 ≤ y1) (h4 : a0[(y1).toNat]? = some x2) (h5 : x2 ≠ a1) (h6 : slices_isNaN_int x2 r3) (h7 : r3 = false) : slices_BinarySearch_int_int a0 a1 (id y1) false
  | p3 (y1 : Int) (h1 : slices_BinarySearch_int_int_L0 a0 a1 0 (lenM (fun x => [.v (.int .i64 x)]) a0) (.e0 y1)) (h2 : ¬ (y1 < (lenM (fun x => [.v (.int .i64 x)]) a0))) : slices_BinarySearch_int_int a0 a1 (id y1) false
def slices_BinarySearch_int_int_s0 (a0 : (List Int)) (a1 : Int) (s0_0 : Int) (s0_1 : Int) : St := mkSt [(0, (.t (.sl 1 ((a0 : List Int).map (fun x => [.v (.int .i64 x)]))))), (1, (.t (.v (.int .i64 (a1))))), (6, (.t (.v (.int .i64 ((lenM (fun x => [.v (.int .i64 x)]) a0)))))), (7, (.t (.v (.int .i64 (s0_0))))), (8, (.t (.v (.int .i64 (s0_1)))))] [] []
def slices_BinarySearch_int_int_oe0 : slices_BinarySearch_int_int_O0 → Exit
  | .e0 _ => .exit 0
def slices_BinarySearch_int_int_op0 : slices_BinarySearch_int_int_O0 → List Prep
  | .e0 _ => [.keep [0, 1, 6, 7] []]
def slices_BinarySearch_int_int_os0 (a0 : (List Int)) (a1 : Int) : slices_BinarySearch_int_int_O0 → St
  | .e0 y0 => mkSt [(0, (.t (.sl 1 ((a0 : List Int).map (fun x => [.v (.int .i64 x)]))))), (1, (.t (.v (.int .i64 (a1))))), (6, (.t (.v (.int .i64 ((lenM (fun x => [.v (.int .i64 x)]) a0)))))), (7, (.t (.v (.int .i64 (y0)))))] [] []
theorem slices_BinarySearch_int_int_l0 {a0 : (List Int)} {a1 : Int} {s0_0 : Int} {s0_1 : Int} {o : slices_BinarySearch_int_int_O0} (h : slices_BinarySearch_int_int_L0 a0 a1 s0_0 s0_1 o) : LW Try.prog 54 (loopAt Try.f41 0) (At (slices_BinarySearch_int_int_oe0 o) (slices_BinarySearch_int_int_op0 o) (slices_BinarySearch_int_int_os0 a0 a1 o)) (slices_BinarySearch_int_int_s0 a0 a1 s0_0 s0_1) := by
  induction h with
  | p0 s0_0 s0_1 xa1 ra2 h1 h2 h3 h4 h5 h6 h7 h8 h9 hr ih =>
    (try simp only [slices_BinarySearch_int_int_s0, List.map_append, List.map_cons, List.map_nil, List.map_set, List.map_take, List.map_drop, List.map_replicate] at ih)
    exact LW_run [.dir 15 true, .reg 4 [] [(2, .nw), (3, .nw), (5, .nw)], .reg 5 [] [(2, .row ((Int.fdiv (s0_0 + s0_1) 2)).toNat [(.v (.int .i64 (xa1)))]), (5, .call [] (.t (boo (ra2))) [])], .dir 27 true, .reg 6 [] [(1, .nw)]] [.keep [0, 1, 6, 7, 8] []] (And.intro (decide_eq_true h1) (And.intro (And.intro h2 (And.intro h3 h4)) (And.intro (And.intro (And.intro (Int.toNat_of_nonneg h5).symm (get_map (f := (fun x => [.v (.int .i64 x)])) h6)) (cmp_Less_int_con h7)) (And.intro h8 (And.intro h9 ih))))) (by kernel_rfl)
  | p1 s0_0 s0_1 xa1 ra2 h1 h2 h3 h4 h5 h6 h7 h8 hr ih =>
    (try simp only [slices_BinarySearch_int_int_s0, List.map_append, List.map_cons, List.map_nil, List.map_set, List.map_take, List.map_drop, List.map_replicate] at ih)
    exact LW_run [.dir 15 true, .reg 4 [] [(2, .nw), (3, .nw), (5, .nw)], .reg 5 [] [(2, .row ((Int.fdiv (s0_0 + s0_1) 2)).toNat [(.v (.int .i64 (xa1)))]), (5, .call [] (.t (boo (ra2))) [])], .dir 27 false] [.keep [0, 1, 6, 7, 8] []] (And.intro (decide_eq_true h1) (And.intro (And.intro h2 (And.intro h3 h4)) (And.intro (And.intro (And.intro (Int.toNat_of_nonneg h5).symm (get_map (f := (fun x => [.v (.int .i64 x)])) h6)) (cmp_Less_int_con h7)) (And.intro h8 ih)))) (by kernel_rfl)
  | p2 s0_0 s0_1 h1 =>
    have qe : mkSt [(0, (.t (.sl 1 ((a0 : List Int).map (fun x => [.v (.int .i64 x)]))))), (1, (.t (.v (.int .i64 (a1))))), (6, (.t (.v (.int .i64 ((lenM (fun x => [.v (.int .i64 x)]) a0)))))), (7, (.t (.v (.int .i64 (s0_0)))))] [] [] = slices_BinarySearch_int_int_os0 a0 a1 (.e0 s0_0) := by first | rfl | (simp only [slices_BinarySearch_int_int_os0, List.map_append, List.map_cons, List.map_nil, List.map_set, List.map_take, List.map_drop, List.map_replicate]; done)
    exact LW_run [.dir 15 false] [] (And.intro (decide_eq_false h1) (And.intro (rfl : ((.exit 0) : Exit) = (.exit 0)) qe)) (by kernel_rfl)
def slices_BinarySearch_int_int_w0 (a0 : (List Int)) (a1 : Int) (s0_0 : Int) (s0_1 : Int) (Q : slices_BinarySearch_int_int_O0 → Prop) : Prop := (if s0_0 < s0_1 then ((InR ((s0_0 + s0_1))) ∧ ((InK .u64 ((s0_0 + s0_1))) ∧ ((InR ((Int.fdiv (s0_0 + s0_1) 2))) ∧ ((0 ≤ (Int.fdiv (s0_0 + s0_1) 2)) ∧ (∃ xa1 : Int, (a0[((Int.fdiv (s0_0 + s0_1) 2)).toNat]? = some xa1) ∧ (∃ ra2 : Bool, (cmp_Less_int xa1 a1 ra2) ∧ ((if ra2 = true then ((InR (((Int.fdiv (s0_0 + s0_1) 2) + 1))) ∧ (∃ o, slices_BinarySearch_int_int_L0 a0 a1 ((Int.fdiv (s0_0 + s0_1) 2) + 1) s0_1 o ∧ Q o)) else (∃ o, slices_BinarySearch_int_int_L0 a0 a1 s0_0 (Int.fdiv (s0_0 + s0_1) 2) o ∧ Q o))))))))) else (Q (.e0 s0_0)))
theorem slices_BinarySearch_int_int_of0 {a0 : (List Int)} {a1 : Int} {s0_0 : Int} {s0_1 : Int} {Q : slices_BinarySearch_int_int_O0 → Prop} (h : slices_BinarySearch_int_int_w0 a0 a1 s0_0 s0_1 Q) : ∃ o, slices_BinarySearch_int_int_L0 a0 a1 s0_0 s0_1 o ∧ Q o := by
  unfold slices_BinarySearch_int_int_w0 at h
  by_cases hc : s0_0 < s0_1
  · have h1 : s0_0 < s0_1 := hc
    replace h := ifP hc h
    obtain ⟨h2, h⟩ := h
    obtain ⟨h3, h⟩ := h
    obtain ⟨h4, h⟩ := h
    obtain ⟨h5, h⟩ := h
    obtain ⟨xa1, h⟩ := h
    obtain ⟨h6, h⟩ := h
    obtain ⟨ra2, h⟩ := h
    obtain ⟨h7, h⟩ := h
    by_cases hc : ra2 = true
    · have h8 : ra2 = true := hc
      replace h := ifP hc h
      obtain ⟨h9, h⟩ := h
      obtain ⟨o, hr, h⟩ := h; exact ⟨o, .p0 s0_0 s0_1 xa1 ra2 h1 h2 h3 h4 h5 h6 h7 h8 h9 hr, h⟩
    · have h8 : ra2 = false := bfalse hc
      replace h := ifN hc h
      obtain ⟨o, hr, h⟩ := h; exact ⟨o, .p1 s0_0 s0_1 xa1 ra2 h1 h2 h3 h4 h5 h6 h7 h8 hr, h⟩
  · have h1 : ¬ (s0_0 < s0_1) := hc
    replace h := ifN hc h
    exact ⟨_, .p2 s0_0 s0_1 h1, h⟩
theorem slices_BinarySearch_int_int_con {a0 : (List Int)} {a1 : Int} {r0_ : Int} {r1_ : Bool} (h : slices_BinarySearch_int_int a0 a1 r0_ r1_) : Con Try.prog 41 [(.t (.sl 1 ((a0 : List Int).map (fun x => [.v (.int .i64 x)])))), (.t (.v (.int .i64 (a1))))] [] (fun r os => r = (.tup [(.t (.v (.int .i64 (r0_)))), (.t (boo (r1_)))]) ∧ os = []) := by
  induction h with
  | p0 y1 x2 h1 h2 h3 h4 h5 =>
    have q1 := slices_BinarySearch_int_int_l0 h1
    (try simp only [slices_BinarySearch_int_int_s0, List.map_append, List.map_cons, List.map_nil, List.map_set, List.map_take, List.map_drop, List.map_replicate] at q1)
    have qr : ((.tup [(.t (.v (.int .i64 (y1)))), (.t (boo (true)))]) : A) = (.tup [(.t (.v (.int .i64 (y1)))), (.t (boo (true)))]) := by first | rfl | (simp only [List.map_append, List.map_cons, List.map_nil, List.map_set, List.map_take, List.map_drop, List.map_replicate]; done)
    exact Con_run Try.call41 Try.func41 [] [.blk 0 [.keep [0, 1, 6, 7, 8] []], .loop (.exit 0) [.keep [0, 1, 6, 7] []] (slices_BinarySearch_int_int_os0 a0 a1 (.e0 y1)), .reg 8 [] [(4, .dir true), (7, .row (y1).toNat [(.v (.int .i64 (x2)))]), (11, .dir true)]] (by kernel_rfl) (And.intro q1 (And.intro (And.intro (decide_eq_true h2) (And.intro (And.intro (Int.toNat_of_nonneg h3).symm (get_map (f := (fun x => [.v (.int .i64 x)])) h4)) (beq_iff_eq.2 h5))) (And.intro qr (rfl : ([] : List (Nat × O)) = [])))) (by kernel_rfl)
  | p1 y1 x2 r3 r4 h1 h2 h3 h4 h5 h6 h7 h8 =>
    have q1 := slices_BinarySearch_int_int_l0 h1
    (try simp only [slices_BinarySearch_int_int_s0, List.map_append, List.map_cons, List.map_nil, List.map_set, List.map_take, List.map_drop, List.map_replicate] at q1)
    have qr : ((.tup [(.t (.v (.int .i64 (y1)))), (.t (boo (r4)))]) : A) = (.tup [(.t (.v (.int .i64 (y1)))), (.t (boo (r4)))]) := by first | rfl | (simp only [List.map_append, List.map_cons, List.map_nil, List.map_set, List.map_take, List.map_drop, List.map_replicate]; done)
    exact Con_run Try.call41 Try.func41 [] [.blk 0 [.keep [0, 1, 6, 7, 8] []], .loop (.exit 0) [.keep [0, 1, 6, 7] []] (slices_BinarySearch_int_int_os0 a0 a1 (.e0 y1)), .reg 8 [] [(4, .dir true), (7, .row (y1).toNat [(.v (.int .i64 (x2)))]), (11, .dir false), (14, .row (y1).toNat [(.v (.int .i64 (x2)))]), (16, .call [] (.t (boo (r3))) []), (17, .dir true), (19, .call [] (.t (boo (r4))) [])]] (by kernel_rfl) (And.intro q1 (And.intro (And.intro (decide_eq_true h2) (And.intro (And.intro (Int.toNat_of_nonneg h3).symm (get_map (f := (fun x => [.v (.int .i64 x)])) h4)) (And.intro (beq_eq_false_iff_ne.2 h5) (And.intro (And.intro (Int.toNat_of_nonneg h3).symm (get_map (f := (fun x => [.v (.int .i64 x)])) h4)) (And.intro (slices_isNaN_int_con h6) (And.intro h7 (slices_isNaN_int_con h8))))))) (And.intro qr (rfl : ([] : List (Nat × O)) = [])))) (by kernel_rfl)
  | p2 y1 x2 r3 h1 h2 h3 h4 h5 h6 h7 =>
    have q1 := slices_BinarySearch_int_int_l0 h1
    (try simp only [slices_BinarySearch_int_int_s0, List.map_append, List.map_cons, List.map_nil, List.map_set, List.map_take, List.map_drop, List.map_replicate] at q1)
    have qr : ((.tup [(.t (.v (.int .i64 (y1)))), (.t (boo (false)))]) : A) = (.tup [(.t (.v (.int .i64 (y1)))), (.t (boo (false)))]) := by first | rfl | (simp only [List.map_append, List.map_cons, List.map_nil, List.map_set, List.map_take, List.map_drop, List.map_replicate]; done)
    exact Con_run Try.call41 Try.func41 [] [.blk 0 [.keep [0, 1, 6, 7, 8] []], .loop (.exit 0) [.keep [0, 1, 6, 7] []] (slices_BinarySearch_int_int_os0 a0 a1 (.e0 y1)), .reg 8 [] [(4, .dir true), (7, .row (y1).toNat [(.v (.int .i64 (x2)))]), (11, .dir false), (14, .row (y1).toNat [(.v (.int .i64 (x2)))]), (16, .call [] (.t (boo (r3))) []), (17, .dir false)]] (by kernel_rfl) (And.intro q1 (And.intro (And.intro (decide_eq_true h2) (And.intro (And.intro (Int.toNat_of_nonneg h3).symm (get_map (f := (fun x => [.v (.int .i64 x)])) h4)) (And.intro (beq_eq_false_iff_ne.2 h5) (And.intro (And.intro (Int.toNat_of_nonneg h3).symm (get_map (f := (fun x => [.v (.int .i64 x)])) h4)) (And.intro (slices_isNaN_int_con h6) h7))))) (And.intro qr (rfl : ([] : List (Nat × O)) = [])))) (by kernel_rfl)
  | p3 y1 h1 h2 =>
    have q1 := slices_BinarySearch_int_int_l0 h1
    (try simp only [slices_BinarySearch_int_int_s0, List.map_append, List.map_cons, List.map_nil, List.map_set, List.map_take, List.map_drop, List.map_replicate] at q1)
    have qr : ((.tup [(.t (.v (.int .i64 (y1)))), (.t (boo (false)))]) : A) = (.tup [(.t (.v (.int .i64 (y1)))), (.t (boo (false)))]) := by first | rfl | (simp only [List.map_append, List.map_cons, List.map_nil, List.map_set, List.map_take, List.map_drop, List.map_replicate]; done)
    exact Con_run Try.call41 Try.func41 [] [.blk 0 [.keep [0, 1, 6, 7, 8] []], .loop (.exit 0) [.keep [0, 1, 6, 7] []] (slices_BinarySearch_int_int_os0 a0 a1 (.e0 y1)), .reg 8 [] [(4, .dir false)]] (by kernel_rfl) (And.intro q1 (And.intro (decide_eq_false h2) (And.intro qr (rfl : ([] : List (Nat × O)) = [])))) (by kernel_rfl)
def slices_BinarySearch_int_int_wp (a0 : (List Int)) (a1 : Int) (Q : Int → Bool → Prop) : Prop := ∃ o, slices_BinarySearch_int_int_L0 a0 a1 0 (lenM (fun x => [.v (.int .i64 x)]) a0) o ∧ (match o with | .e0 y1 => ((if y1 < (lenM (fun x => [.v (.int .i64 x)]) a0) then ((0 ≤ y1) ∧ (∃ x2 : Int, (a0[(y1).toNat]? = some x2) ∧ ((if x2 = a1 then (Q y1 true) else (∃ r3 : Bool, (slices_isNaN_int x2 r3) ∧ ((if r3 = true then (∃ r4 : Bool, (slices_isNaN_int a1 r4) ∧ (Q y1 r4)) else (Q y1 false)))))))) else (Q y1 false))))
theorem slices_BinarySearch_int_int_of {a0 : (List Int)} {a1 : Int} {Q : Int → Bool → Prop} (h : slices_BinarySearch_int_int_wp a0 a1 Q) : ∃ (r0_ : Int) (r1_ : Bool), slices_BinarySearch_int_int a0 a1 r0_ r1_ ∧ Q r0_ r1_ := by
  unfold slices_BinarySearch_int_int_wp at h
  obtain ⟨o, hl, h⟩ := h
  cases o with
  | e0 y1 =>
    have h1 := hl
    by_cases hc : y1 < (lenM (fun x => [.v (.int .i64 x)]) a0)
    · have h2 : y1 < (lenM (fun x => [.v (.int .i64 x)]) a0) := hc
      replace h := ifP hc h
      obtain ⟨h3, h⟩ := h
      obtain ⟨x2, h⟩ := h
      obtain ⟨h4, h⟩ := h
      by_cases hc : x2 = a1
      · have h5 : x2 = a1 := hc
        replace h := ifP hc h
        exact ⟨_, _, .p0 y1 x2 h1 h2 h3 h4 h5, h⟩
      · have h5 : x2 ≠ a1 := hc
        replace h := ifN hc h
        obtain ⟨r3, h⟩ := h
        obtain ⟨h6, h⟩ := h
        by_cases hc : r3 = true
        · have h7 : r3 = true := hc
          replace h := ifP hc h
          obtain ⟨r4, h⟩ := h
          obtain ⟨h8, h⟩ := h
          exact ⟨_, _, .p1 y1 x2 r3 r4 h1 h2 h3 h4 h5 h6 h7 h8, h⟩
        · have h7 : r3 = false := bfalse hc
          replace h := ifN hc h
          exact ⟨_, _, .p2 y1 x2 r3 h1 h2 h3 h4 h5 h6 h7, h⟩
    · have h2 : ¬ (y1 < (lenM (fun x => [.v (.int .i64 x)]) a0)) := hc
      replace h := ifN hc h
      exact ⟨_, _, .p3 y1 h1 h2, h⟩
inductive basket_Why (a0 : api_Basket) (a1 : api_Asset) (a2 : Int) : Int → Prop
  | p0 (r1 : Int) (r2 : Int) (r3 : Bool) (h1 : asset_Left a1 a2 r1) (h2 : slices_BinarySearch_int_int a0.Barred a1.Issuer r2 r3) (h3 : a1.Currency ≠ a0.Currency) : basket_Why a0 a1 a2 1
  | p1 (r1 : Int) (r2 : Int) (r3 : Bool) (h1 : asset_Left a1 a2 r1) (h2 : slices_BinarySearch_int_int a0.Barred a1.Issuer r2 r3) (h3 : a1.Currency = a0.Currency) (h4 : a1.Rating > a0.Rating) : basket_Why a0 a1 a2 2
  | p2 (r1 : Int) (r2 : Int) (r3 : Bool) (h1 : asset_Left a1 a2 r1) (h2 : slices_BinarySearch_int_int a0.Barred a1.Issuer r2 r3) (h3 : a1.Currency = a0.Currency) (h4 : ¬ (a1.Rating > a0.Rating)) (h5 : r1 < 1) : basket_Why a0 a1 a2 3
  | p3 (r1 : Int) (r2 : Int) (r3 : Bool) (h1 : asset_Left a1 a2 r1) (h2 : slices_BinarySearch_int_int a0.Barred a1.Issuer r2 r3) (h3 : a1.Currency = a0.Currency) (h4 : ¬ (a1.Rating > a0.Rating)) (h5 : ¬ (r1 < 1)) (h6 : r1 < a0.Least) : basket_Why a0 a1 a2 3
  | p4 (r1 : Int) (r2 : Int) (r3 : Bool) (h1 : asset_Left a1 a2 r1) (h2 : slices_BinarySearch_int_int a0.Barred a1.Issuer r2 r3) (h3 : a1.Currency = a0.Currency) (h4 : ¬ (a1.Rating > a0.Rating)) (h5 : ¬ (r1 < 1)) (h6 : ¬ (r1 < a0.Least)) (h7 : r1 > a0.Most) : basket_Why a0 a1 a2 4
  | p5 (r1 : Int) (r2 : Int) (r3 : Bool) (h1 : asset_Left a1 a2 r1) (h2 : slices_BinarySearch_int_int a0.Barred a1.Issuer r2 r3) (h3 : a1.Currency = a0.Currency) (h4 : ¬ (a1.Rating > a0.Rating)) (h5 : ¬ (r1 < 1)) (h6 : ¬ (r1 < a0.Least)) (h7 : ¬ (r1 > a0.Most)) (h8 : r3 = true) : basket_Why a0 a1 a2 5
  | p6 (r1 : Int) (r2 : Int) (r3 : Bool) (h1 : asset_Left a1 a2 r1) (h2 : slices_BinarySearch_int_int a0.Barred a1.Issuer r2 r3) (h3 : a1.Currency = a0.Currency) (h4 : ¬ (a1.Rating > a0.Rating)) (h5 : ¬ (r1 < 1)) (h6 : ¬ (r1 < a0.Least)) (h7 : ¬ (r1 > a0.Most)) (h8 : r3 = false) : basket_Why a0 a1 a2 0
theorem basket_Why_con {a0 : api_Basket} {a1 : api_Asset} {a2 : Int} {r0_ : Int} (h : basket_Why a0 a1 a2 r0_) : Con Try.prog 16 [(.agg [(.t (.v (.int .i64 (a0.ID)))), (.t (.v (.int .i64 (a0.Version)))), (.t (str (a0.Currency))), (.t (.v (.int .i64 (a0.Rating)))), (.t (.v (.int .i64 (a0.Least)))), (.t (.v (.int .i64 (a0.Most)))), (.t (.sl 3 ((a0.Cuts : List api_Cut).map api_Cut.enc))), (.t (.v (.int .i64 (a0.Issuer)))), (.t (.v (.int .i64 (a0.Asset)))), (.t (.sl 1 ((a0.Barred : List Int).map (fun x => [.v (.int .i64 x)]))))]), (.agg [(.t (str (a1.ISIN))), (.t (.v (.int .i64 (a1.Issuer)))), (.t (.v (.int .i64 (a1.Rating)))), (.t (.v (.int .i64 (a1.Maturity)))), (.t (str (a1.Currency)))]), (.t (.v (.int .i64 (a2))))] [] (fun r os => r = (.t (.v (.int .i64 (r0_)))) ∧ os = []) := by
  induction h with
  | p0 r1 r2 r3 h1 h2 h3 =>
    have qr : ((.t (.v (.int .i64 (1)))) : A) = (.t (.v (.int .i64 (1)))) := by first | rfl | (simp only [List.map_append, List.map_cons, List.map_nil, List.map_set, List.map_take, List.map_drop, List.map_replicate]; done)
    exact Con_run Try.call16 Try.func16 [] [.reg 1 [] [(2, .call [] (.t (.v (.int .i64 (r1)))) [])], .reg 2 [] [(4, .call [] (.tup [(.t (.v (.int .i64 (r2)))), (.t (boo (r3)))]) [])], .dir 21 true] (by kernel_rfl) (And.intro (asset_Left_con h1) (And.intro (slices_BinarySearch_int_int_con h2) (And.intro (strNe_true h3) (And.intro qr (rfl : ([] : List (Nat × O)) = []))))) (by kernel_rfl)
  | p1 r1 r2 r3 h1 h2 h3 h4 =>
    have qr : ((.t (.v (.int .i64 (2)))) : A) = (.t (.v (.int .i64 (2)))) := by first | rfl | (simp only [List.map_append, List.map_cons, List.map_nil, List.map_set, List.map_take, List.map_drop, List.map_replicate]; done)
    exact Con_run Try.call16 Try.func16 [] [.reg 1 [] [(2, .call [] (.t (.v (.int .i64 (r1)))) [])], .reg 2 [] [(4, .call [] (.tup [(.t (.v (.int .i64 (r2)))), (.t (boo (r3)))]) [])], .dir 21 false, .dir 27 true] (by kernel_rfl) (And.intro (asset_Left_con h1) (And.intro (slices_BinarySearch_int_int_con h2) (And.intro (strNe_false h3) (And.intro (decide_eq_true h4) (And.intro qr (rfl : ([] : List (Nat × O)) = [])))))) (by kernel_rfl)
  | p2 r1 r2 r3 h1 h2 h3 h4 h5 =>
    have qr : ((.t (.v (.int .i64 (3)))) : A) = (.t (.v (.int .i64 (3)))) := by first | rfl | (simp only [List.map_append, List.map_cons, List.map_nil, List.map_set, List.map_take, List.map_drop, List.map_replicate]; done)
    exact Con_run Try.call16 Try.func16 [] [.reg 1 [] [(2, .call [] (.t (.v (.int .i64 (r1)))) [])], .reg 2 [] [(4, .call [] (.tup [(.t (.v (.int .i64 (r2)))), (.t (boo (r3)))]) [])], .dir 21 false, .dir 27 false, .reg 7 [] [(2, .dir true)]] (by kernel_rfl) (And.intro (asset_Left_con h1) (And.intro (slices_BinarySearch_int_int_con h2) (And.intro (strNe_false h3) (And.intro (decide_eq_false h4) (And.intro (decide_eq_true h5) (And.intro qr (rfl : ([] : List (Nat × O)) = []))))))) (by kernel_rfl)
  | p3 r1 r2 r3 h1 h2 h3 h4 h5 h6 =>
    have qr : ((.t (.v (.int .i64 (3)))) : A) = (.t (.v (.int .i64 (3)))) := by first | rfl | (simp only [List.map_append, List.map_cons, List.map_nil, List.map_set, List.map_take, List.map_drop, List.map_replicate]; done)
    exact Con_run Try.call16 Try.func16 [] [.reg 1 [] [(2, .call [] (.t (.v (.int .i64 (r1)))) [])], .reg 2 [] [(4, .call [] (.tup [(.t (.v (.int .i64 (r2)))), (.t (boo (r3)))]) [])], .dir 21 false, .dir 27 false, .reg 7 [] [(2, .dir false)], .dir 33 true] (by kernel_rfl) (And.intro (asset_Left_con h1) (And.intro (slices_BinarySearch_int_int_con h2) (And.intro (strNe_false h3) (And.intro (decide_eq_false h4) (And.intro (decide_eq_false h5) (And.intro (decide_eq_true h6) (And.intro qr (rfl : ([] : List (Nat × O)) = [])))))))) (by kernel_rfl)
  | p4 r1 r2 r3 h1 h2 h3 h4 h5 h6 h7 =>
    have qr : ((.t (.v (.int .i64 (4)))) : A) = (.t (.v (.int .i64 (4)))) := by first | rfl | (simp only [List.map_append, List.map_cons, List.map_nil, List.map_set, List.map_take, List.map_drop, List.map_replicate]; done)
    exact Con_run Try.call16 Try.func16 [] [.reg 1 [] [(2, .call [] (.t (.v (.int .i64 (r1)))) [])], .reg 2 [] [(4, .call [] (.tup [(.t (.v (.int .i64 (r2)))), (.t (boo (r3)))]) [])], .dir 21 false, .dir 27 false, .reg 7 [] [(2, .dir false)], .dir 33 false, .dir 42 true] (by kernel_rfl) (And.intro (asset_Left_con h1) (And.intro (slices_BinarySearch_int_int_con h2) (And.intro (strNe_false h3) (And.intro (decide_eq_false h4) (And.intro (decide_eq_false h5) (And.intro (decide_eq_false h6) (And.intro (decide_eq_true h7) (And.intro qr (rfl : ([] : List (Nat × O)) = []))))))))) (by kernel_rfl)
  | p5 r1 r2 r3 h1 h2 h3 h4 h5 h6 h7 h8 =>
    have qr : ((.t (.v (.int .i64 (5)))) : A) = (.t (.v (.int .i64 (5)))) := by first | rfl | (simp only [List.map_append, List.map_cons, List.map_nil, List.map_set, List.map_take, List.map_drop, List.map_replicate]; done)
    exact Con_run Try.call16 Try.func16 [] [.reg 1 [] [(2, .call [] (.t (.v (.int .i64 (r1)))) [])], .reg 2 [] [(4, .call [] (.tup [(.t (.v (.int .i64 (r2)))), (.t (boo (r3)))]) [])], .dir 21 false, .dir 27 false, .reg 7 [] [(2, .dir false)], .dir 33 false, .dir 42 false, .dir 47 true] (by kernel_rfl) (And.intro (asset_Left_con h1) (And.intro (slices_BinarySearch_int_int_con h2) (And.intro (strNe_false h3) (And.intro (decide_eq_false h4) (And.intro (decide_eq_false h5) (And.intro (decide_eq_false h6) (And.intro (decide_eq_false h7) (And.intro h8 (And.intro qr (rfl : ([] : List (Nat × O)) = [])))))))))) (by kernel_rfl)
  | p6 r1 r2 r3 h1 h2 h3 h4 h5 h6 h7 h8 =>
    have qr : ((.t (.v (.int .i64 (0)))) : A) = (.t (.v (.int .i64 (0)))) := by first | rfl | (simp only [List.map_append, List.map_cons, List.map_nil, List.map_set, List.map_take, List.map_drop, List.map_replicate]; done)
    exact Con_run Try.call16 Try.func16 [] [.reg 1 [] [(2, .call [] (.t (.v (.int .i64 (r1)))) [])], .reg 2 [] [(4, .call [] (.tup [(.t (.v (.int .i64 (r2)))), (.t (boo (r3)))]) [])], .dir 21 false, .dir 27 false, .reg 7 [] [(2, .dir false)], .dir 33 false, .dir 42 false, .dir 47 false] (by kernel_rfl) (And.intro (asset_Left_con h1) (And.intro (slices_BinarySearch_int_int_con h2) (And.intro (strNe_false h3) (And.intro (decide_eq_false h4) (And.intro (decide_eq_false h5) (And.intro (decide_eq_false h6) (And.intro (decide_eq_false h7) (And.intro h8 (And.intro qr (rfl : ([] : List (Nat × O)) = [])))))))))) (by kernel_rfl)
def basket_Why_wp (a0 : api_Basket) (a1 : api_Asset) (a2 : Int) (Q : Int → Prop) : Prop := ∃ r1 : Int, (asset_Left a1 a2 r1) ∧ (∃ r2 : Int, ∃ r3 : Bool, (slices_BinarySearch_int_int a0.Barred a1.Issuer r2 r3) ∧ ((if a1.Currency = a0.Currency then ((if a1.Rating > a0.Rating then (Q 2) else ((if r1 < 1 then (Q 3) else ((if r1 < a0.Least then (Q 3) else ((if r1 > a0.Most then (Q 4) else ((if r3 = true then (Q 5) else (Q 0))))))))))) else (Q 1))))
theorem basket_Why_of {a0 : api_Basket} {a1 : api_Asset} {a2 : Int} {Q : Int → Prop} (h : basket_Why_wp a0 a1 a2 Q) : ∃ (r0_ : Int), basket_Why a0 a1 a2 r0_ ∧ Q r0_ := by
  unfold basket_Why_wp at h
  obtain ⟨r1, h⟩ := h
  obtain ⟨h1, h⟩ := h
  obtain ⟨r2, h⟩ := h
  obtain ⟨r3, h⟩ := h
  obtain ⟨h2, h⟩ := h
  by_cases hc : a1.Currency = a0.Currency
  · have h3 : a1.Currency = a0.Currency := hc
    replace h := ifP hc h
    by_cases hc : a1.Rating > a0.Rating
    · have h4 : a1.Rating > a0.Rating := hc
      replace h := ifP hc h
      exact ⟨_, .p1 r1 r2 r3 h1 h2 h3 h4, h⟩
    · have h4 : ¬ (a1.Rating > a0.Rating) := hc
      replace h := ifN hc h
      by_cases hc : r1 < 1
      · have h5 : r1 < 1 := hc
        replace h := ifP hc h
        exact ⟨_, .p2 r1 r2 r3 h1 h2 h3 h4 h5, h⟩
      · have h5 : ¬ (r1 < 1) := hc
        replace h := ifN hc h
        by_cases hc : r1 < a0.Least
        · have h6 : r1 < a0.Least := hc
          replace h := ifP hc h
          exact ⟨_, .p3 r1 r2 r3 h1 h2 h3 h4 h5 h6, h⟩
        · have h6 : ¬ (r1 < a0.Least) := hc
          replace h := ifN hc h
          by_cases hc : r1 > a0.Most
          · have h7 : r1 > a0.Most := hc
            replace h := ifP hc h
            exact ⟨_, .p4 r1 r2 r3 h1 h2 h3 h4 h5 h6 h7, h⟩
          · have h7 : ¬ (r1 > a0.Most) := hc
            replace h := ifN hc h
            by_cases hc : r3 = true
            · have h8 : r3 = true := hc
              replace h := ifP hc h
              exact ⟨_, .p5 r1 r2 r3 h1 h2 h3 h4 h5 h6 h7 h8, h⟩
            · have h8 : r3 = false := bfalse hc
              replace h := ifN hc h
              exact ⟨_, .p6 r1 r2 r3 h1 h2 h3 h4 h5 h6 h7 h8, h⟩
  · have h3 : a1.Currency ≠ a0.Currency := hc
    replace h := ifN hc h
    exact ⟨_, .p0 r1 r2 r3 h1 h2 h3, h⟩
inductive basket_Fits (a0 : api_Basket) (a1 : api_Asset) (a2 : Int) : Bool → Prop
  | p0 (r1 : Int) (h1 : basket_Why a0 a1 a2 r1) : basket_Fits a0 a1 a2 (r1 == 0)
theorem basket_Fits_con {a0 : api_Basket} {a1 : api_Asset} {a2 : Int} {r0_ : Bool} (h : basket_Fits a0 a1 a2 r0_) : Con Try.prog 17 [(.agg [(.t (.v (.int .i64 (a0.ID)))), (.t (.v (.int .i64 (a0.Version)))), (.t (str (a0.Currency))), (.t (.v (.int .i64 (a0.Rating)))), (.t (.v (.int .i64 (a0.Least)))), (.t (.v (.int .i64 (a0.Most)))), (.t (.sl 3 ((a0.Cuts : List api_Cut).map api_Cut.enc))), (.t (.v (.int .i64 (a0.Issuer)))), (.t (.v (.int .i64 (a0.Asset)))), (.t (.sl 1 ((a0.Barred : List Int).map (fun x => [.v (.int .i64 x)]))))]), (.agg [(.t (str (a1.ISIN))), (.t (.v (.int .i64 (a1.Issuer)))), (.t (.v (.int .i64 (a1.Rating)))), (.t (.v (.int .i64 (a1.Maturity)))), (.t (str (a1.Currency)))]), (.t (.v (.int .i64 (a2))))] [] (fun r os => r = (.t (boo (r0_))) ∧ os = []) := by
  induction h with
  | p0 r1 h1 =>
    have qr : ((.t (boo ((r1 == 0)))) : A) = (.t (boo (((r1 == 0))))) := by first | rfl | (simp only [List.map_append, List.map_cons, List.map_nil, List.map_set, List.map_take, List.map_drop, List.map_replicate]; done)
    exact Con_run Try.call17 Try.func17 [] [.reg 1 [] [(3, .call [] (.t (.v (.int .i64 (r1)))) [])]] (by kernel_rfl) (And.intro (basket_Why_con h1) (And.intro qr (rfl : ([] : List (Nat × O)) = []))) (by kernel_rfl)
def basket_Fits_wp (a0 : api_Basket) (a1 : api_Asset) (a2 : Int) (Q : Bool → Prop) : Prop := ∃ r1 : Int, (basket_Why a0 a1 a2 r1) ∧ (Q (r1 == 0))
theorem basket_Fits_of {a0 : api_Basket} {a1 : api_Asset} {a2 : Int} {Q : Bool → Prop} (h : basket_Fits_wp a0 a1 a2 Q) : ∃ (r0_ : Bool), basket_Fits a0 a1 a2 r0_ ∧ Q r0_ := by
  unfold basket_Fits_wp at h
  obtain ⟨r1, h⟩ := h
  obtain ⟨h1, h⟩ := h
  exact ⟨_, .p0 r1 h1, h⟩
inductive basket_Within_O0 where
  | e0
  | e1
inductive basket_Within_L0 (a1 : api_Basket) (a0 : api_Basket) : Int → basket_Within_O0 → Prop
  | p0 (s0_0 : Int) (xa1 : Int) (ra2 : Int) (ra3 : Bool) (h1 : s0_0 < (lenM (fun x => [.v (.int .i64 x)]) a1.Barred)) (h2 : 0 ≤ s0_0) (h3 : a1.Barred[(s0_0).toNat]? = some xa1) (h4 : slices_BinarySearch_int_int a0.Barred xa1 ra2 ra3) (h5 : ra3 = false) : basket_Within_L0 a1 a0 s0_0 (.e0)
  | p1 (s0_0 : Int) (xa1 : Int) (ra2 : Int) (ra3 : Bool) {o : basket_Within_O0} (h1 : s0_0 < (lenM (fun x => [.v (.int .i64 x)]) a1.Barred)) (h2 : 0 ≤ s0_0) (h3 : a1.Barred[(s0_0).toNat]? = some xa1) (h4 : slices_BinarySearch_int_int a0.Barred xa1 ra2 ra3) (h5 : ra3 = true) (h6 : InR ((s0_0 + 1))) (hr : basket_Within_L0 a1 a0 (s0_0 + 1) o) : basket_Within_L0 a1 a0 s0_0 o
  | p2 (s0_0 : Int) (h1 : ¬ (s0_0 < (lenM (fun x => [.v (.int .i64 x)]) a1.Barred))) : basket_Within_L0 a1 a0 s0_0 (.e1)
inductive basket_Within (a0 : api_Basket) (a1 : api_Basket) : Bool → Prop
  | p0 (h1 : a0.Currency ≠ a1.Currency) : basket_Within a0 a1 false
  | p1 (h1 : a0.Currency = a1.Currency) (h2 : a0.Rating > a1.Rating) : basket_Within a0 a1 false
  | p2 (h1 : a0.Currency = a1.Currency) (h2 : ¬ (a0.Rating > a1.Rating)) (h3 : (max a0.Least 1) < (max a1.Least 1)) : basket_Within a0 a1 false
  | p3 (h1 : a0.Currency = a1.Currency) (h2 : ¬ (a0.Rating > a1.Rating)) (h3 : ¬ ((max a0.Least 1) < (max a1.Least 1))) (h4 : a0.Most > a1.Most) : basket_Within a0 a1 false
  | p4 (h1 : a0.Currency = a1.Currency) (h2 : ¬ (a0.Rating > a1.Rating)) (h3 : ¬ ((max a0.Least 1) < (max a1.Least 1))) (h4 : ¬ (a0.Most > a1.Most)) (h5 : basket_Within_L0 a1 a0 0 (.e0)) : basket_Within a0 a1 false
  | p5 (h1 : a0.Currency = a1.Currency) (h2 : ¬ (a0.Rating > a1.Rating)) (h3 : ¬ ((max a0.Least 1) < (max a1.Least 1))) (h4 : ¬ (a0.Most > a1.Most)) (h5 : basket_Within_L0 a1 a0 0 (.e1)) : basket_Within a0 a1 true
def basket_Within_s0 (a1 : api_Basket) (a0 : api_Basket) (s0_0 : Int) : St := mkSt [(2, (.at 2 0)), (38, (.t (.sl 1 ((a1.Barred : List Int).map (fun x => [.v (.int .i64 x)]))))), (39, (.t (.v (.int .i64 ((lenM (fun x => [.v (.int .i64 x)]) a1.Barred)))))), (40, (.t (.v (.int .i64 (s0_0)))))] [(2, (.box [(.t (.v (.int .i64 (a0.ID)))), (.t (.v (.int .i64 (a0.Version)))), (.t (str (a0.Currency))), (.t (.v (.int .i64 (a0.Rating)))), (.t (.v (.int .i64 (a0.Least)))), (.t (.v (.int .i64 (a0.Most)))), (.t (.sl 3 ((a0.Cuts : List api_Cut).map api_Cut.enc))), (.t (.v (.int .i64 (a0.Issuer)))), (.t (.v (.int .i64 (a0.Asset)))), (.t (.sl 1 ((a0.Barred : List Int).map (fun x => [.v (.int .i64 x)]))))]))] []
def basket_Within_oe0 : basket_Within_O0 → Exit
  | .e0 => .ret
  | .e1 => .exit 0
def basket_Within_op0 : basket_Within_O0 → List Prep
  | .e0 => [.keep [4] []]
  | .e1 => [.keep [] []]
def basket_Within_os0 (a1 : api_Basket) (a0 : api_Basket) : basket_Within_O0 → St
  | .e0 => mkSt [(4, (.t (boo (false))))] [] []
  | .e1 => mkSt [] [] []
theorem basket_Within_l0 {a1 : api_Basket} {a0 : api_Basket} {s0_0 : Int} {o : basket_Within_O0} (h : basket_Within_L0 a1 a0 s0_0 o) : LW Try.prog 54 (loopAt Try.f18 0) (At (basket_Within_oe0 o) (basket_Within_op0 o) (basket_Within_os0 a1 a0 o)) (basket_Within_s0 a1 a0 s0_0) := by
  induction h with
  | p0 s0_0 xa1 ra2 ra3 h1 h2 h3 h4 h5 =>
    have qe : mkSt [(4, (.t (boo (false))))] [] [] = basket_Within_os0 a1 a0 (.e0) := by first | rfl | (simp only [basket_Within_os0, List.map_append, List.map_cons, List.map_nil, List.map_set, List.map_take, List.map_drop, List.map_replicate]; done)
    exact LW_run [.dir 41 true, .reg 5 [] [(0, .row (s0_0).toNat [(.v (.int .i64 (xa1)))])], .reg 6 [] [(3, .call [] (.tup [(.t (.v (.int .i64 (ra2)))), (.t (boo (ra3)))]) [])], .dir 52 true] [] (And.intro (decide_eq_true h1) (And.intro (And.intro (Int.toNat_of_nonneg h2).symm (get_map (f := (fun x => [.v (.int .i64 x)])) h3)) (And.intro (slices_BinarySearch_int_int_con h4) (And.intro (congrArg Bool.not (h5)) (And.intro (rfl : (.ret : Exit) = .ret) qe))))) (by kernel_rfl)
  | p1 s0_0 xa1 ra2 ra3 h1 h2 h3 h4 h5 h6 hr ih =>
    (try simp only [basket_Within_s0, List.map_append, List.map_cons, List.map_nil, List.map_set, List.map_take, List.map_drop, List.map_replicate] at ih)
    exact LW_run [.dir 41 true, .reg 5 [] [(0, .row (s0_0).toNat [(.v (.int .i64 (xa1)))])], .reg 6 [] [(3, .call [] (.tup [(.t (.v (.int .i64 (ra2)))), (.t (boo (ra3)))]) [])], .dir 52 false, .reg 9 [] [(0, .nw)]] [.keep [2, 38, 39, 40] [2]] (And.intro (decide_eq_true h1) (And.intro (And.intro (Int.toNat_of_nonneg h2).symm (get_map (f := (fun x => [.v (.int .i64 x)])) h3)) (And.intro (slices_BinarySearch_int_int_con h4) (And.intro (congrArg Bool.not (h5)) (And.intro h6 ih))))) (by kernel_rfl)
  | p2 s0_0 h1 =>
    have qe : mkSt [] [] [] = basket_Within_os0 a1 a0 (.e1) := by first | rfl | (simp only [basket_Within_os0, List.map_append, List.map_cons, List.map_nil, List.map_set, List.map_take, List.map_drop, List.map_replicate]; done)
    exact LW_run [.dir 41 false] [] (And.intro (decide_eq_false h1) (And.intro (rfl : ((.exit 0) : Exit) = (.exit 0)) qe)) (by kernel_rfl)
def basket_Within_w0 (a1 : api_Basket) (a0 : api_Basket) (s0_0 : Int) (Q : basket_Within_O0 → Prop) : Prop := (if s0_0 < (lenM (fun x => [.v (.int .i64 x)]) a1.Barred) then ((0 ≤ s0_0) ∧ (∃ xa1 : Int, (a1.Barred[(s0_0).toNat]? = some xa1) ∧ (∃ ra2 : Int, ∃ ra3 : Bool, (slices_BinarySearch_int_int a0.Barred xa1 ra2 ra3) ∧ ((if ra3 = true then ((InR ((s0_0 + 1))) ∧ (∃ o, basket_Within_L0 a1 a0 (s0_0 + 1) o ∧ Q o)) else (Q (.e0))))))) else (Q (.e1)))
theorem basket_Within_of0 {a1 : api_Basket} {a0 : api_Basket} {s0_0 : Int} {Q : basket_Within_O0 → Prop} (h : basket_Within_w0 a1 a0 s0_0 Q) : ∃ o, basket_Within_L0 a1 a0 s0_0 o ∧ Q o := by
  unfold basket_Within_w0 at h
  by_cases hc : s0_0 < (lenM (fun x => [.v (.int .i64 x)]) a1.Barred)
  · have h1 : s0_0 < (lenM (fun x => [.v (.int .i64 x)]) a1.Barred) := hc
    replace h := ifP hc h
    obtain ⟨h2, h⟩ := h
    obtain ⟨xa1, h⟩ := h
    obtain ⟨h3, h⟩ := h
    obtain ⟨ra2, h⟩ := h
    obtain ⟨ra3, h⟩ := h
    obtain ⟨h4, h⟩ := h
    by_cases hc : ra3 = true
    · have h5 : ra3 = true := hc
      replace h := ifP hc h
      obtain ⟨h6, h⟩ := h
      obtain ⟨o, hr, h⟩ := h; exact ⟨o, .p1 s0_0 xa1 ra2 ra3 h1 h2 h3 h4 h5 h6 hr, h⟩
    · have h5 : ra3 = false := bfalse hc
      replace h := ifN hc h
      exact ⟨_, .p0 s0_0 xa1 ra2 ra3 h1 h2 h3 h4 h5, h⟩
  · have h1 : ¬ (s0_0 < (lenM (fun x => [.v (.int .i64 x)]) a1.Barred)) := hc
    replace h := ifN hc h
    exact ⟨_, .p2 s0_0 h1, h⟩
theorem basket_Within_con {a0 : api_Basket} {a1 : api_Basket} {r0_ : Bool} (h : basket_Within a0 a1 r0_) : Con Try.prog 18 [(.agg [(.t (.v (.int .i64 (a0.ID)))), (.t (.v (.int .i64 (a0.Version)))), (.t (str (a0.Currency))), (.t (.v (.int .i64 (a0.Rating)))), (.t (.v (.int .i64 (a0.Least)))), (.t (.v (.int .i64 (a0.Most)))), (.t (.sl 3 ((a0.Cuts : List api_Cut).map api_Cut.enc))), (.t (.v (.int .i64 (a0.Issuer)))), (.t (.v (.int .i64 (a0.Asset)))), (.t (.sl 1 ((a0.Barred : List Int).map (fun x => [.v (.int .i64 x)]))))]), (.agg [(.t (.v (.int .i64 (a1.ID)))), (.t (.v (.int .i64 (a1.Version)))), (.t (str (a1.Currency))), (.t (.v (.int .i64 (a1.Rating)))), (.t (.v (.int .i64 (a1.Least)))), (.t (.v (.int .i64 (a1.Most)))), (.t (.sl 3 ((a1.Cuts : List api_Cut).map api_Cut.enc))), (.t (.v (.int .i64 (a1.Issuer)))), (.t (.v (.int .i64 (a1.Asset)))), (.t (.sl 1 ((a1.Barred : List Int).map (fun x => [.v (.int .i64 x)]))))])] [] (fun r os => r = (.t (boo (r0_))) ∧ os = []) := by
  induction h with
  | p0 h1 =>
    have qr : ((.t (boo (false))) : A) = (.t (boo (false))) := by first | rfl | (simp only [List.map_append, List.map_cons, List.map_nil, List.map_set, List.map_take, List.map_drop, List.map_replicate]; done)
    exact Con_run Try.call18 Try.func18 [] [.reg 1 [] [(5, .dir true)]] (by kernel_rfl) (And.intro (strNe_true h1) (And.intro qr (rfl : ([] : List (Nat × O)) = []))) (by kernel_rfl)
  | p1 h1 h2 =>
    have qr : ((.t (boo (false))) : A) = (.t (boo (false))) := by first | rfl | (simp only [List.map_append, List.map_cons, List.map_nil, List.map_set, List.map_take, List.map_drop, List.map_replicate]; done)
    exact Con_run Try.call18 Try.func18 [] [.reg 1 [] [(5, .dir false), (12, .dir true)]] (by kernel_rfl) (And.intro (And.intro (strNe_false h1) (decide_eq_true h2)) (And.intro qr (rfl : ([] : List (Nat × O)) = []))) (by kernel_rfl)
  | p2 h1 h2 h3 =>
    have qr : ((.t (boo (false))) : A) = (.t (boo (false))) := by first | rfl | (simp only [List.map_append, List.map_cons, List.map_nil, List.map_set, List.map_take, List.map_drop, List.map_replicate]; done)
    exact Con_run Try.call18 Try.func18 [] [.reg 1 [] [(5, .dir false), (12, .dir false), (21, .dir true)]] (by kernel_rfl) (And.intro (And.intro (strNe_false h1) (And.intro (decide_eq_false h2) (decide_eq_true h3))) (And.intro qr (rfl : ([] : List (Nat × O)) = []))) (by kernel_rfl)
  | p3 h1 h2 h3 h4 =>
    have qr : ((.t (boo (false))) : A) = (.t (boo (false))) := by first | rfl | (simp only [List.map_append, List.map_cons, List.map_nil, List.map_set, List.map_take, List.map_drop, List.map_replicate]; done)
    exact Con_run Try.call18 Try.func18 [] [.reg 1 [] [(5, .dir false), (12, .dir false), (21, .dir false)], .dir 36 true] (by kernel_rfl) (And.intro (And.intro (strNe_false h1) (And.intro (decide_eq_false h2) (decide_eq_false h3))) (And.intro (decide_eq_true h4) (And.intro qr (rfl : ([] : List (Nat × O)) = [])))) (by kernel_rfl)
  | p4 h1 h2 h3 h4 h5 =>
    have q1 := basket_Within_l0 h5
    (try simp only [basket_Within_s0, List.map_append, List.map_cons, List.map_nil, List.map_set, List.map_take, List.map_drop, List.map_replicate] at q1)
    have qr : ((.t (boo (false))) : A) = (.t (boo (false))) := by first | rfl | (simp only [List.map_append, List.map_cons, List.map_nil, List.map_set, List.map_take, List.map_drop, List.map_replicate]; done)
    exact Con_run Try.call18 Try.func18 [] [.reg 1 [] [(5, .dir false), (12, .dir false), (21, .dir false)], .dir 36 false, .blk 0 [.keep [2, 38, 39, 40] [2]], .loop .ret [.keep [4] []] (basket_Within_os0 a1 a0 (.e0))] (by kernel_rfl) (And.intro (And.intro (strNe_false h1) (And.intro (decide_eq_false h2) (decide_eq_false h3))) (And.intro (decide_eq_false h4) (And.intro q1 (And.intro qr (rfl : ([] : List (Nat × O)) = []))))) (by kernel_rfl)
  | p5 h1 h2 h3 h4 h5 =>
    have q1 := basket_Within_l0 h5
    (try simp only [basket_Within_s0, List.map_append, List.map_cons, List.map_nil, List.map_set, List.map_take, List.map_drop, List.map_replicate] at q1)
    have qr : ((.t (boo (true))) : A) = (.t (boo (true))) := by first | rfl | (simp only [List.map_append, List.map_cons, List.map_nil, List.map_set, List.map_take, List.map_drop, List.map_replicate]; done)
    exact Con_run Try.call18 Try.func18 [] [.reg 1 [] [(5, .dir false), (12, .dir false), (21, .dir false)], .dir 36 false, .blk 0 [.keep [2, 38, 39, 40] [2]], .loop (.exit 0) [.keep [] []] (basket_Within_os0 a1 a0 (.e1))] (by kernel_rfl) (And.intro (And.intro (strNe_false h1) (And.intro (decide_eq_false h2) (decide_eq_false h3))) (And.intro (decide_eq_false h4) (And.intro q1 (And.intro qr (rfl : ([] : List (Nat × O)) = []))))) (by kernel_rfl)
def basket_Within_wp (a0 : api_Basket) (a1 : api_Basket) (Q : Bool → Prop) : Prop := (if a0.Currency = a1.Currency then ((if a0.Rating > a1.Rating then (Q false) else ((if (max a0.Least 1) < (max a1.Least 1) then (Q false) else ((if a0.Most > a1.Most then (Q false) else (∃ o, basket_Within_L0 a1 a0 0 o ∧ (match o with | .e0 => (Q false) | .e1 => (Q true))))))))) else (Q false))
theorem basket_Within_of {a0 : api_Basket} {a1 : api_Basket} {Q : Bool → Prop} (h : basket_Within_wp a0 a1 Q) : ∃ (r0_ : Bool), basket_Within a0 a1 r0_ ∧ Q r0_ := by
  unfold basket_Within_wp at h
  by_cases hc : a0.Currency = a1.Currency
  · have h1 : a0.Currency = a1.Currency := hc
    replace h := ifP hc h
    by_cases hc : a0.Rating > a1.Rating
    · have h2 : a0.Rating > a1.Rating := hc
      replace h := ifP hc h
      exact ⟨_, .p1 h1 h2, h⟩
    · have h2 : ¬ (a0.Rating > a1.Rating) := hc
      replace h := ifN hc h
      by_cases hc : (max a0.Least 1) < (max a1.Least 1)
      · have h3 : (max a0.Least 1) < (max a1.Least 1) := hc
        replace h := ifP hc h
        exact ⟨_, .p2 h1 h2 h3, h⟩
      · have h3 : ¬ ((max a0.Least 1) < (max a1.Least 1)) := hc
        replace h := ifN hc h
        by_cases hc : a0.Most > a1.Most
        · have h4 : a0.Most > a1.Most := hc
          replace h := ifP hc h
          exact ⟨_, .p3 h1 h2 h3 h4, h⟩
        · have h4 : ¬ (a0.Most > a1.Most) := hc
          replace h := ifN hc h
          obtain ⟨o, hl, h⟩ := h
          cases o with
          | e0 =>
            have h5 := hl
            exact ⟨_, .p4 h1 h2 h3 h4 h5, h⟩
          | e1 =>
            have h5 := hl
            exact ⟨_, .p5 h1 h2 h3 h4 h5, h⟩
  · have h1 : a0.Currency ≠ a1.Currency := hc
    replace h := ifN hc h
    exact ⟨_, .p0 h1, h⟩
inductive lombardref14_Within_O0 where
  | e0
  | e1 (y0 : Int) (y1 : Int)
inductive lombardref14_Within_L0 (a0 : api_Basket) (a1 : api_Basket) : Int → Int → Int → lombardref14_Within_O0 → Prop
  | p0 (s0_0 : Int) (s0_1 : Int) (s0_2 : Int) (xa1 : Int) (ra2 : Bool) (h1 : s0_2 < (lenM (fun x => [.v (.int .i64 x)]) a1.Barred)) (h2 : 0 ≤ s0_2) (h3 : a1.Barred[(s0_2).toNat]? = some xa1) (h4 : lombardref14_has a0.Barred xa1 ra2) (h5 : ra2 = false) : lombardref14_Within_L0 a0 a1 (id s0_0) (id s0_1) s0_2 (.e0)
  | p1 (s0_0 : Int) (s0_1 : Int) (s0_2 : Int) (xa1 : Int) (ra2 : Bool) {o : lombardref14_Within_O0} (h1 : s0_2 < (lenM (fun x => [.v (.int .i64 x)]) a1.Barred)) (h2 : 0 ≤ s0_2) (h3 : a1.Barred[(s0_2).toNat]? = some xa1) (h4 : lombardref14_has a0.Barred xa1 ra2) (h5 : ra2 = true) (h6 : InR ((s0_2 + 1))) (hr : lombardref14_Within_L0 a0 a1 s0_0 s0_1 (s0_2 + 1) o) : lombardref14_Within_L0 a0 a1 (id s0_0) (id s0_1) s0_2 o
  | p2 (s0_0 : Int) (s0_1 : Int) (s0_2 : Int) (h1 : ¬ (s0_2 < (lenM (fun x => [.v (.int .i64 x)]) a1.Barred))) : lombardref14_Within_L0 a0 a1 (id s0_0) (id s0_1) s0_2 (.e1 s0_1 s0_0)
inductive lombardref14_Within (a0 : api_Basket) (a1 : api_Basket) : Bool → Prop
  | p0 (h1 : a0.Least = 0) (h2 : a1.Least = 0) (h3 : lombardref14_Within_L0 a0 a1 1 1 0 (.e0)) : lombardref14_Within a0 a1 false
  | p1 (y1 : Int) (y2 : Int) (h1 : a0.Least = 0) (h2 : a1.Least = 0) (h3 : lombardref14_Within_L0 a0 a1 1 1 0 (.e1 y1 y2)) (h4 : a0.Currency = a1.Currency) (h5 : a0.Rating ≤ a1.Rating) (h6 : y1 ≥ y2) : lombardref14_Within a0 a1 (decide (a0.Most ≤ a1.Most))
  | p2 (y1 : Int) (y2 : Int) (h1 : a0.Least = 0) (h2 : a1.Least = 0) (h3 : lombardref14_Within_L0 a0 a1 1 1 0 (.e1 y1 y2)) (h4 : a0.Currency = a1.Currency) (h5 : a0.Rating ≤ a1.Rating) (h6 : ¬ (y1 ≥ y2)) : lombardref14_Within a0 a1 false
  | p3 (y1 : Int) (y2 : Int) (h1 : a0.Least = 0) (h2 : a1.Least = 0) (h3 : lombardref14_Within_L0 a0 a1 1 1 0 (.e1 y1 y2)) (h4 : a0.Currency = a1.Currency) (h5 : ¬ (a0.Rating ≤ a1.Rating)) : lombardref14_Within a0 a1 false
  | p4 (y1 : Int) (y2 : Int) (h1 : a0.Least = 0) (h2 : a1.Least = 0) (h3 : lombardref14_Within_L0 a0 a1 1 1 0 (.e1 y1 y2)) (h4 : a0.Currency ≠ a1.Currency) : lombardref14_Within a0 a1 false
  | p5 (h1 : a0.Least = 0) (h2 : a1.Least ≠ 0) (h3 : lombardref14_Within_L0 a0 a1 a1.Least 1 0 (.e0)) : lombardref14_Within a0 a1 false
  | p6 (y1 : Int) (y2 : Int) (h1 : a0.Least = 0) (h2 : a1.Least ≠ 0) (h3 : lombardref14_Within_L0 a0 a1 a1.Least 1 0 (.e1 y1 y2)) (h4 : a0.Currency = a1.Currency) (h5 : a0.Rating ≤ a1.Rating) (h6 : y1 ≥ y2) : lombardref14_Within a0 a1 (decide (a0.Most ≤ a1.Most))
  | p7 (y1 : Int) (y2 : Int) (h1 : a0.Least = 0) (h2 : a1.Least ≠ 0) (h3 : lombardref14_Within_L0 a0 a1 a1.Least 1 0 (.e1 y1 y2)) (h4 : a0.Currency = a1.Currency) (h5 : a0.Rating ≤ a1.Rating) (h6 : ¬ (y1 ≥ y2)) : lombardref14_Within a0 a1 false
  | p8 (y1 : Int) (y2 : Int) (h1 : a0.Least = 0) (h2 : a1.Least ≠ 0) (h3 : lombardref14_Within_L0 a0 a1 a1.Least 1 0 (.e1 y1 y2)) (h4 : a0.Currency = a1.Currency) (h5 : ¬ (a0.Rating ≤ a1.Rating)) : lombardref14_Within a0 a1 false
  | p9 (y1 : Int) (y2 : Int) (h1 : a0.Least = 0) (h2 : a1.Least ≠ 0) (h3 : lombardref14_Within_L0 a0 a1 a1.Least 1 0 (.e1 y1 y2)) (h4 : a0.Currency ≠ a1.Currency) : lombardref14_Within a0 a1 false
  | p10 (h1 : a0.Least ≠ 0) (h2 : a1.Least = 0) (h3 : lombardref14_Within_L0 a0 a1 1 a0.Least 0 (.e0)) : lombardref14_Within a0 a1 false
  | p11 (y1 : Int) (y2 : Int) (h1 : a0.Least ≠ 0) (h2 : a1.Least = 0) (h3 : lombardref14_Within_L0 a0 a1 1 a0.Least 0 (.e1 y1 y2)) (h4 : a0.Currency = a1.Currency) (h5 : a0.Rating ≤ a1.Rating) (h6 : y1 ≥ y2) : lombardref14_Within a0 a1 (decide (a0.Most ≤ a1.Most))
  | p12 (y1 : Int) (y2 : Int) (h1 : a0.Least ≠ 0) (h2 : a1.Least = 0) (h3 : lombardref14_Within_L0 a0 a1 1 a0.Least 0 (.e1 y1 y2)) (h4 : a0.Currency = a1.Currency) (h5 : a0.Rating ≤ a1.Rating) (h6 : ¬ (y1 ≥ y2)) : lombardref14_Within a0 a1 false
  | p13 (y1 : Int) (y2 : Int) (h1 : a0.Least ≠ 0) (h2 : a1.Least = 0) (h3 : lombardref14_Within_L0 a0 a1 1 a0.Least 0 (.e1 y1 y2)) (h4 : a0.Currency = a1.Currency) (h5 : ¬ (a0.Rating ≤ a1.Rating)) : lombardref14_Within a0 a1 false
  | p14 (y1 : Int) (y2 : Int) (h1 : a0.Least ≠ 0) (h2 : a1.Least = 0) (h3 : lombardref14_Within_L0 a0 a1 1 a0.Least 0 (.e1 y1 y2)) (h4 : a0.Currency ≠ a1.Currency) : lombardref14_Within a0 a1 false
  | p15 (h1 : a0.Least ≠ 0) (h2 : a1.Least ≠ 0) (h3 : lombardref14_Within_L0 a0 a1 a1.Least a0.Least 0 (.e0)) : lombardref14_Within a0 a1 false
  | p16 (y1 : Int) (y2 : Int) (h1 : a0.Least ≠ 0) (h2 : a1.Least ≠ 0) (h3 : lombardref14_Within_L0 a0 a1 a1.Least a0.Least 0 (.e1 y1 y2)) (h4 : a0.Currency = a1.Currency) (h5 : a0.Rating ≤ a1.Rating) (h6 : y1 ≥ y2) : lombardref14_Within a0 a1 (decide (a0.Most ≤ a1.Most))
  | p17 (y1 : Int) (y2 : Int) (h1 : a0.Least ≠ 0) (h2 : a1.Least ≠ 0) (h3 : lombardref14_Within_L0 a0 a1 a1.Least a0.Least 0 (.e1 y1 y2)) (h4 : a0.Currency = a1.Currency) (h5 : a0.Rating ≤ a1.Rating) (h6 : ¬ (y1 ≥ y2)) : lombardref14_Within a0 a1 false
  | p18 (y1 : Int) (y2 : Int) (h1 : a0.Least ≠ 0) (h2 : a1.Least ≠ 0) (h3 : lombardref14_Within_L0 a0 a1 a1.Least a0.Least 0 (.e1 y1 y2)) (h4 : a0.Currency = a1.Currency) (h5 : ¬ (a0.Rating ≤ a1.Rating)) : lombardref14_Within a0 a1 false
  | p19 (y1 : Int) (y2 : Int) (h1 : a0.Least ≠ 0) (h2 : a1.Least ≠ 0) (h3 : lombardref14_Within_L0 a0 a1 a1.Least a0.Least 0 (.e1 y1 y2)) (h4 : a0.Currency ≠ a1.Currency) : lombardref14_Within a0 a1 false
def lombardref14_Within_s0 (a0 : api_Basket) (a1 : api_Basket) (s0_0 : Int) (s0_1 : Int) (s0_2 : Int) : St := mkSt [(2, (.at 2 0)), (3, (.at 3 0)), (5, (.t (.v (.int .i64 (s0_1))))), (6, (.t (.v (.int .i64 (s0_0))))), (7, (.t (.v (.int .i64 (s0_2)))))] [(2, (.box [(.t (.v (.int .i64 (a0.ID)))), (.t (.v (.int .i64 (a0.Version)))), (.t (str (a0.Currency))), (.t (.v (.int .i64 (a0.Rating)))), (.t (.v (.int .i64 (a0.Least)))), (.t (.v (.int .i64 (a0.Most)))), (.t (.sl 3 ((a0.Cuts : List api_Cut).map api_Cut.enc))), (.t (.v (.int .i64 (a0.Issuer)))), (.t (.v (.int .i64 (a0.Asset)))), (.t (.sl 1 ((a0.Barred : List Int).map (fun x => [.v (.int .i64 x)]))))])), (3, (.box [(.t (.v (.int .i64 (a1.ID)))), (.t (.v (.int .i64 (a1.Version)))), (.t (str (a1.Currency))), (.t (.v (.int .i64 (a1.Rating)))), (.t (.v (.int .i64 (a1.Least)))), (.t (.v (.int .i64 (a1.Most)))), (.t (.sl 3 ((a1.Cuts : List api_Cut).map api_Cut.enc))), (.t (.v (.int .i64 (a1.Issuer)))), (.t (.v (.int .i64 (a1.Asset)))), (.t (.sl 1 ((a1.Barred : List Int).map (fun x => [.v (.int .i64 x)]))))]))] []
def lombardref14_Within_oe0 : lombardref14_Within_O0 → Exit
  | .e0 => .ret
  | .e1 _ _ => .exit 0
def lombardref14_Within_op0 : lombardref14_Within_O0 → List Prep
  | .e0 => [.keep [4] []]
  | .e1 _ _ => [.keep [2, 3, 5, 6] [2, 3]]
def lombardref14_Within_os0 (a0 : api_Basket) (a1 : api_Basket) : lombardref14_Within_O0 → St
  | .e0 => mkSt [(4, (.t (boo (false))))] [] []
  | .e1 y0 y1 => mkSt [(2, (.at 2 0)), (3, (.at 3 0)), (5, (.t (.v (.int .i64 (y0))))), (6, (.t (.v (.int .i64 (y1)))))] [(2, (.box [(.t (.v (.int .i64 (a0.ID)))), (.t (.v (.int .i64 (a0.Version)))), (.t (str (a0.Currency))), (.t (.v (.int .i64 (a0.Rating)))), (.t (.v (.int .i64 (a0.Least)))), (.t (.v (.int .i64 (a0.Most)))), (.t (.sl 3 ((a0.Cuts : List api_Cut).map api_Cut.enc))), (.t (.v (.int .i64 (a0.Issuer)))), (.t (.v (.int .i64 (a0.Asset)))), (.t (.sl 1 ((a0.Barred : List Int).map (fun x => [.v (.int .i64 x)]))))])), (3, (.box [(.t (.v (.int .i64 (a1.ID)))), (.t (.v (.int .i64 (a1.Version)))), (.t (str (a1.Currency))), (.t (.v (.int .i64 (a1.Rating)))), (.t (.v (.int .i64 (a1.Least)))), (.t (.v (.int .i64 (a1.Most)))), (.t (.sl 3 ((a1.Cuts : List api_Cut).map api_Cut.enc))), (.t (.v (.int .i64 (a1.Issuer)))), (.t (.v (.int .i64 (a1.Asset)))), (.t (.sl 1 ((a1.Barred : List Int).map (fun x => [.v (.int .i64 x)]))))]))] []
theorem lombardref14_Within_l0 {a0 : api_Basket} {a1 : api_Basket} {s0_0 : Int} {s0_1 : Int} {s0_2 : Int} {o : lombardref14_Within_O0} (h : lombardref14_Within_L0 a0 a1 s0_0 s0_1 s0_2 o) : LW Try.prog 56 (loopAt Try.f19 0) (At (lombardref14_Within_oe0 o) (lombardref14_Within_op0 o) (lombardref14_Within_os0 a0 a1 o)) (lombardref14_Within_s0 a0 a1 s0_0 s0_1 s0_2) := by
  induction h with
  | p0 s0_0 s0_1 s0_2 xa1 ra2 h1 h2 h3 h4 h5 =>
    have qe : mkSt [(4, (.t (boo (false))))] [] [] = lombardref14_Within_os0 a0 a1 (.e0) := by first | rfl | (simp only [lombardref14_Within_os0, List.map_append, List.map_cons, List.map_nil, List.map_set, List.map_take, List.map_drop, List.map_replicate]; done)
    exact LW_run [.dir 20 true, .reg 9 [] [(5, .row (s0_2).toNat [(.v (.int .i64 (xa1)))]), (7, .call [] (.t (boo (ra2))) [])], .dir 31 true] [] (And.intro (decide_eq_true h1) (And.intro (And.intro (And.intro (Int.toNat_of_nonneg h2).symm (get_map (f := (fun x => [.v (.int .i64 x)])) h3)) (lombardref14_has_con h4)) (And.intro (congrArg Bool.not (h5)) (And.intro (rfl : (.ret : Exit) = .ret) qe)))) (by kernel_rfl)
  | p1 s0_0 s0_1 s0_2 xa1 ra2 h1 h2 h3 h4 h5 h6 hr ih =>
    (try simp only [lombardref14_Within_s0, List.map_append, List.map_cons, List.map_nil, List.map_set, List.map_take, List.map_drop, List.map_replicate] at ih)
    exact LW_run [.dir 20 true, .reg 9 [] [(5, .row (s0_2).toNat [(.v (.int .i64 (xa1)))]), (7, .call [] (.t (boo (ra2))) [])], .dir 31 false, .reg 8 [] [(1, .nw)]] [.keep [2, 3, 5, 6, 7] [2, 3]] (And.intro (decide_eq_true h1) (And.intro (And.intro (And.intro (Int.toNat_of_nonneg h2).symm (get_map (f := (fun x => [.v (.int .i64 x)])) h3)) (lombardref14_has_con h4)) (And.intro (congrArg Bool.not (h5)) (And.intro h6 ih)))) (by kernel_rfl)
  | p2 s0_0 s0_1 s0_2 h1 =>
    have qe : mkSt [(2, (.at 2 0)), (3, (.at 3 0)), (5, (.t (.v (.int .i64 (s0_1))))), (6, (.t (.v (.int .i64 (s0_0)))))] [(2, (.box [(.t (.v (.int .i64 (a0.ID)))), (.t (.v (.int .i64 (a0.Version)))), (.t (str (a0.Currency))), (.t (.v (.int .i64 (a0.Rating)))), (.t (.v (.int .i64 (a0.Least)))), (.t (.v (.int .i64 (a0.Most)))), (.t (.sl 3 ((a0.Cuts : List api_Cut).map api_Cut.enc))), (.t (.v (.int .i64 (a0.Issuer)))), (.t (.v (.int .i64 (a0.Asset)))), (.t (.sl 1 ((a0.Barred : List Int).map (fun x => [.v (.int .i64 x)]))))])), (3, (.box [(.t (.v (.int .i64 (a1.ID)))), (.t (.v (.int .i64 (a1.Version)))), (.t (str (a1.Currency))), (.t (.v (.int .i64 (a1.Rating)))), (.t (.v (.int .i64 (a1.Least)))), (.t (.v (.int .i64 (a1.Most)))), (.t (.sl 3 ((a1.Cuts : List api_Cut).map api_Cut.enc))), (.t (.v (.int .i64 (a1.Issuer)))), (.t (.v (.int .i64 (a1.Asset)))), (.t (.sl 1 ((a1.Barred : List Int).map (fun x => [.v (.int .i64 x)]))))]))] [] = lombardref14_Within_os0 a0 a1 (.e1 s0_1 s0_0) := by first | rfl | (simp only [lombardref14_Within_os0, List.map_append, List.map_cons, List.map_nil, List.map_set, List.map_take, List.map_drop, List.map_replicate]; done)
    exact LW_run [.dir 20 false] [] (And.intro (decide_eq_false h1) (And.intro (rfl : ((.exit 0) : Exit) = (.exit 0)) qe)) (by kernel_rfl)
def lombardref14_Within_w0 (a0 : api_Basket) (a1 : api_Basket) (s0_0 : Int) (s0_1 : Int) (s0_2 : Int) (Q : lombardref14_Within_O0 → Prop) : Prop := (if s0_2 < (lenM (fun x => [.v (.int .i64 x)]) a1.Barred) then ((0 ≤ s0_2) ∧ (∃ xa1 : Int, (a1.Barred[(s0_2).toNat]? = some xa1) ∧ (∃ ra2 : Bool, (lombardref14_has a0.Barred xa1 ra2) ∧ ((if ra2 = true then ((InR ((s0_2 + 1))) ∧ (∃ o, lombardref14_Within_L0 a0 a1 s0_0 s0_1 (s0_2 + 1) o ∧ Q o)) else (Q (.e0))))))) else (Q (.e1 s0_1 s0_0)))
theorem lombardref14_Within_of0 {a0 : api_Basket} {a1 : api_Basket} {s0_0 : Int} {s0_1 : Int} {s0_2 : Int} {Q : lombardref14_Within_O0 → Prop} (h : lombardref14_Within_w0 a0 a1 s0_0 s0_1 s0_2 Q) : ∃ o, lombardref14_Within_L0 a0 a1 s0_0 s0_1 s0_2 o ∧ Q o := by
  unfold lombardref14_Within_w0 at h
  by_cases hc : s0_2 < (lenM (fun x => [.v (.int .i64 x)]) a1.Barred)
  · have h1 : s0_2 < (lenM (fun x => [.v (.int .i64 x)]) a1.Barred) := hc
    replace h := ifP hc h
    obtain ⟨h2, h⟩ := h
    obtain ⟨xa1, h⟩ := h
    obtain ⟨h3, h⟩ := h
    obtain ⟨ra2, h⟩ := h
    obtain ⟨h4, h⟩ := h
    by_cases hc : ra2 = true
    · have h5 : ra2 = true := hc
      replace h := ifP hc h
      obtain ⟨h6, h⟩ := h
      obtain ⟨o, hr, h⟩ := h; exact ⟨o, .p1 s0_0 s0_1 s0_2 xa1 ra2 h1 h2 h3 h4 h5 h6 hr, h⟩
    · have h5 : ra2 = false := bfalse hc
      replace h := ifN hc h
      exact ⟨_, .p0 s0_0 s0_1 s0_2 xa1 ra2 h1 h2 h3 h4 h5, h⟩
  · have h1 : ¬ (s0_2 < (lenM (fun x => [.v (.int .i64 x)]) a1.Barred)) := hc
    replace h := ifN hc h
    exact ⟨_, .p2 s0_0 s0_1 s0_2 h1, h⟩
theorem lombardref14_Within_con {a0 : api_Basket} {a1 : api_Basket} {r0_ : Bool} (h : lombardref14_Within a0 a1 r0_) : Con Try.prog 19 [(.agg [(.t (.v (.int .i64 (a0.ID)))), (.t (.v (.int .i64 (a0.Version)))), (.t (str (a0.Currency))), (.t (.v (.int .i64 (a0.Rating)))), (.t (.v (.int .i64 (a0.Least)))), (.t (.v (.int .i64 (a0.Most)))), (.t (.sl 3 ((a0.Cuts : List api_Cut).map api_Cut.enc))), (.t (.v (.int .i64 (a0.Issuer)))), (.t (.v (.int .i64 (a0.Asset)))), (.t (.sl 1 ((a0.Barred : List Int).map (fun x => [.v (.int .i64 x)]))))]), (.agg [(.t (.v (.int .i64 (a1.ID)))), (.t (.v (.int .i64 (a1.Version)))), (.t (str (a1.Currency))), (.t (.v (.int .i64 (a1.Rating)))), (.t (.v (.int .i64 (a1.Least)))), (.t (.v (.int .i64 (a1.Most)))), (.t (.sl 3 ((a1.Cuts : List api_Cut).map api_Cut.enc))), (.t (.v (.int .i64 (a1.Issuer)))), (.t (.v (.int .i64 (a1.Asset)))), (.t (.sl 1 ((a1.Barred : List Int).map (fun x => [.v (.int .i64 x)]))))])] [] (fun r os => r = (.t (boo (r0_))) ∧ os = []) := by
  induction h with
  | p0 h1 h2 h3 =>
    have q1 := lombardref14_Within_l0 h3
    (try simp only [lombardref14_Within_s0, List.map_append, List.map_cons, List.map_nil, List.map_set, List.map_take, List.map_drop, List.map_replicate] at q1)
    have qr : ((.t (boo (false))) : A) = (.t (boo (false))) := by first | rfl | (simp only [List.map_append, List.map_cons, List.map_nil, List.map_set, List.map_take, List.map_drop, List.map_replicate]; done)
    exact Con_run Try.call19 Try.func19 [] [.dir 13 true, .dir 15 true, .blk 0 [.keep [2, 3, 5, 6, 7] [2, 3]], .loop .ret [.keep [4] []] (lombardref14_Within_os0 a0 a1 (.e0))] (by kernel_rfl) (And.intro (beq_iff_eq.2 h1) (And.intro (beq_iff_eq.2 h2) (And.intro q1 (And.intro qr (rfl : ([] : List (Nat × O)) = []))))) (by kernel_rfl)
  | p1 y1 y2 h1 h2 h3 h4 h5 h6 =>
    have q1 := lombardref14_Within_l0 h3
    (try simp only [lombardref14_Within_s0, List.map_append, List.map_cons, List.map_nil, List.map_set, List.map_take, List.map_drop, List.map_replicate] at q1)
    have qr : ((.t (boo ((decide (a0.Most ≤ a1.Most))))) : A) = (.t (boo (((decide (a0.Most ≤ a1.Most)))))) := by first | rfl | (simp only [List.map_append, List.map_cons, List.map_nil, List.map_set, List.map_take, List.map_drop, List.map_replicate]; done)
    exact Con_run Try.call19 Try.func19 [] [.dir 13 true, .dir 15 true, .blk 0 [.keep [2, 3, 5, 6, 7] [2, 3]], .loop (.exit 0) [.keep [2, 3, 5, 6] [2, 3]] (lombardref14_Within_os0 a0 a1 (.e1 y1 y2)), .reg 11 [] [(5, .dir true), (12, .dir true), (17, .dir true)]] (by kernel_rfl) (And.intro (beq_iff_eq.2 h1) (And.intro (beq_iff_eq.2 h2) (And.intro q1 (And.intro (And.intro (strEq_true h4) (And.intro (decide_eq_true h5) (decide_eq_true h6))) (And.intro qr (rfl : ([] : List (Nat × O)) = [])))))) (by kernel_rfl)
  | p2 y1 y2 h1 h2 h3 h4 h5 h6 =>
    have q1 := lombardref14_Within_l0 h3
    (try simp only [lombardref14_Within_s0, List.map_append, List.map_cons, List.map_nil, List.map_set, List.map_take, List.map_drop, List.map_replicate] at q1)
    have qr : ((.t (boo (false))) : A) = (.t (boo (false))) := by first | rfl | (simp only [List.map_append, List.map_cons, List.map_nil, List.map_set, List.map_take, List.map_drop, List.map_replicate]; done)
    exact Con_run Try.call19 Try.func19 [] [.dir 13 true, .dir 15 true, .blk 0 [.keep [2, 3, 5, 6, 7] [2, 3]], .loop (.exit 0) [.keep [2, 3, 5, 6] [2, 3]] (lombardref14_Within_os0 a0 a1 (.e1 y1 y2)), .reg 11 [] [(5, .dir true), (12, .dir true), (17, .dir false)]] (by kernel_rfl) (And.intro (beq_iff_eq.2 h1) (And.intro (beq_iff_eq.2 h2) (And.intro q1 (And.intro (And.intro (strEq_true h4) (And.intro (decide_eq_true h5) (decide_eq_false h6))) (And.intro qr (rfl : ([] : List (Nat × O)) = [])))))) (by kernel_rfl)
  | p3 y1 y2 h1 h2 h3 h4 h5 =>
    have q1 := lombardref14_Within_l0 h3
    (try simp only [lombardref14_Within_s0, List.map_append, List.map_cons, List.map_nil, List.map_set, List.map_take, List.map_drop, List.map_replicate] at q1)
    have qr : ((.t (boo (false))) : A) = (.t (boo (false))) := by first | rfl | (simp only [List.map_append, List.map_cons, List.map_nil, List.map_set, List.map_take, List.map_drop, List.map_replicate]; done)
    exact Con_run Try.call19 Try.func19 [] [.dir 13 true, .dir 15 true, .blk 0 [.keep [2, 3, 5, 6, 7] [2, 3]], .loop (.exit 0) [.keep [2, 3, 5, 6] [2, 3]] (lombardref14_Within_os0 a0 a1 (.e1 y1 y2)), .reg 11 [] [(5, .dir true), (12, .dir false)]] (by kernel_rfl) (And.intro (beq_iff_eq.2 h1) (And.intro (beq_iff_eq.2 h2) (And.intro q1 (And.intro (And.intro (strEq_true h4) (decide_eq_false h5)) (And.intro qr (rfl : ([] : List (Nat × O)) = [])))))) (by kernel_rfl)
  | p4 y1 y2 h1 h2 h3 h4 =>
    have q1 := lombardref14_Within_l0 h3
    (try simp only [lombardref14_Within_s0, List.map_append, List.map_cons, List.map_nil, List.map_set, List.map_take, List.map_drop, List.map_replicate] at q1)
    have qr : ((.t (boo (false))) : A) = (.t (boo (false))) := by first | rfl | (simp only [List.map_append, List.map_cons, List.map_nil, List.map_set, List.map_take, List.map_drop, List.map_replicate]; done)
    exact Con_run Try.call19 Try.func19 [] [.dir 13 true, .dir 15 true, .blk 0 [.keep [2, 3, 5, 6, 7] [2, 3]], .loop (.exit 0) [.keep [2, 3, 5, 6] [2, 3]] (lombardref14_Within_os0 a0 a1 (.e1 y1 y2)), .reg 11 [] [(5, .dir false)]] (by kernel_rfl) (And.intro (beq_iff_eq.2 h1) (And.intro (beq_iff_eq.2 h2) (And.intro q1 (And.intro (strEq_false h4) (And.intro qr (rfl : ([] : List (Nat × O)) = [])))))) (by kernel_rfl)
  | p5 h1 h2 h3 =>
    have q1 := lombardref14_Within_l0 h3
    (try simp only [lombardref14_Within_s0, List.map_append, List.map_cons, List.map_nil, List.map_set, List.map_take, List.map_drop, List.map_replicate] at q1)
    have qr : ((.t (boo (false))) : A) = (.t (boo (false))) := by first | rfl | (simp only [List.map_append, List.map_cons, List.map_nil, List.map_set, List.map_take, List.map_drop, List.map_replicate]; done)
    exact Con_run Try.call19 Try.func19 [] [.dir 13 true, .dir 15 false, .blk 0 [.keep [2, 3, 5, 6, 7] [2, 3]], .loop .ret [.keep [4] []] (lombardref14_Within_os0 a0 a1 (.e0))] (by kernel_rfl) (And.intro (beq_iff_eq.2 h1) (And.intro (beq_eq_false_iff_ne.2 h2) (And.intro q1 (And.intro qr (rfl : ([] : List (Nat × O)) = []))))) (by kernel_rfl)
  | p6 y1 y2 h1 h2 h3 h4 h5 h6 =>
    have q1 := lombardref14_Within_l0 h3
    (try simp only [lombardref14_Within_s0, List.map_append, List.map_cons, List.map_nil, List.map_set, List.map_take, List.map_drop, List.map_replicate] at q1)
    have qr : ((.t (boo ((decide (a0.Most ≤ a1.Most))))) : A) = (.t (boo (((decide (a0.Most ≤ a1.Most)))))) := by first | rfl | (simp only [List.map_append, List.map_cons, List.map_nil, List.map_set, List.map_take, List.map_drop, List.map_replicate]; done)
    exact Con_run Try.call19 Try.func19 [] [.dir 13 true, .dir 15 false, .blk 0 [.keep [2, 3, 5, 6, 7] [2, 3]], .loop (.exit 0) [.keep [2, 3, 5, 6] [2, 3]] (lombardref14_Within_os0 a0 a1 (.e1 y1 y2)), .reg 11 [] [(5, .dir true), (12, .dir true), (17, .dir true)]] (by kernel_rfl) (And.intro (beq_iff_eq.2 h1) (And.intro (beq_eq_false_iff_ne.2 h2) (And.intro q1 (And.intro (And.intro (strEq_true h4) (And.intro (decide_eq_true h5) (decide_eq_true h6))) (And.intro qr (rfl : ([] : List (Nat × O)) = [])))))) (by kernel_rfl)
  | p7 y1 y2 h1 h2 h3 h4 h5 h6 =>
    have q1 := lombardref14_Within_l0 h3
    (try simp only [lombardref14_Within_s0, List.map_append, List.map_cons, List.map_nil, List.map_set, List.map_take, List.map_drop, List.map_replicate] at q1)
    have qr : ((.t (boo (false))) : A) = (.t (boo (false))) := by first | rfl | (simp only [List.map_append, List.map_cons, List.map_nil, List.map_set, List.map_take, List.map_drop, List.map_replicate]; done)
    exact Con_run Try.call19 Try.func19 [] [.dir 13 true, .dir 15 false, .blk 0 [.keep [2, 3, 5, 6, 7] [2, 3]], .loop (.exit 0) [.keep [2, 3, 5, 6] [2, 3]] (lombardref14_Within_os0 a0 a1 (.e1 y1 y2)), .reg 11 [] [(5, .dir true), (12, .dir true), (17, .dir false)]] (by kernel_rfl) (And.intro (beq_iff_eq.2 h1) (And.intro (beq_eq_false_iff_ne.2 h2) (And.intro q1 (And.intro (And.intro (strEq_true h4) (And.intro (decide_eq_true h5) (decide_eq_false h6))) (And.intro qr (rfl : ([] : List (Nat × O)) = [])))))) (by kernel_rfl)
  | p8 y1 y2 h1 h2 h3 h4 h5 =>
    have q1 := lombardref14_Within_l0 h3
    (try simp only [lombardref14_Within_s0, List.map_append, List.map_cons, List.map_nil, List.map_set, List.map_take, List.map_drop, List.map_replicate] at q1)
    have qr : ((.t (boo (false))) : A) = (.t (boo (false))) := by first | rfl | (simp only [List.map_append, List.map_cons, List.map_nil, List.map_set, List.map_take, List.map_drop, List.map_replicate]; done)
    exact Con_run Try.call19 Try.func19 [] [.dir 13 true, .dir 15 false, .blk 0 [.keep [2, 3, 5, 6, 7] [2, 3]], .loop (.exit 0) [.keep [2, 3, 5, 6] [2, 3]] (lombardref14_Within_os0 a0 a1 (.e1 y1 y2)), .reg 11 [] [(5, .dir true), (12, .dir false)]] (by kernel_rfl) (And.intro (beq_iff_eq.2 h1) (And.intro (beq_eq_false_iff_ne.2 h2) (And.intro q1 (And.intro (And.intro (strEq_true h4) (decide_eq_false h5)) (And.intro qr (rfl : ([] : List (Nat × O)) = [])))))) (by kernel_rfl)
  | p9 y1 y2 h1 h2 h3 h4 =>
    have q1 := lombardref14_Within_l0 h3
    (try simp only [lombardref14_Within_s0, List.map_append, List.map_cons, List.map_nil, List.map_set, List.map_take, List.map_drop, List.map_replicate] at q1)
    have qr : ((.t (boo (false))) : A) = (.t (boo (false))) := by first | rfl | (simp only [List.map_append, List.map_cons, List.map_nil, List.map_set, List.map_take, List.map_drop, List.map_replicate]; done)
    exact Con_run Try.call19 Try.func19 [] [.dir 13 true, .dir 15 false, .blk 0 [.keep [2, 3, 5, 6, 7] [2, 3]], .loop (.exit 0) [.keep [2, 3, 5, 6] [2, 3]] (lombardref14_Within_os0 a0 a1 (.e1 y1 y2)), .reg 11 [] [(5, .dir false)]] (by kernel_rfl) (And.intro (beq_iff_eq.2 h1) (And.intro (beq_eq_false_iff_ne.2 h2) (And.intro q1 (And.intro (strEq_false h4) (And.intro qr (rfl : ([] : List (Nat × O)) = [])))))) (by kernel_rfl)
  | p10 h1 h2 h3 =>
    have q1 := lombardref14_Within_l0 h3
    (try simp only [lombardref14_Within_s0, List.map_append, List.map_cons, List.map_nil, List.map_set, List.map_take, List.map_drop, List.map_replicate] at q1)
    have qr : ((.t (boo (false))) : A) = (.t (boo (false))) := by first | rfl | (simp only [List.map_append, List.map_cons, List.map_nil, List.map_set, List.map_take, List.map_drop, List.map_replicate]; done)
    exact Con_run Try.call19 Try.func19 [] [.dir 13 false, .dir 15 true, .blk 0 [.keep [2, 3, 5, 6, 7] [2, 3]], .loop .ret [.keep [4] []] (lombardref14_Within_os0 a0 a1 (.e0))] (by kernel_rfl) (And.intro (beq_eq_false_iff_ne.2 h1) (And.intro (beq_iff_eq.2 h2) (And.intro q1 (And.intro qr (rfl : ([] : List (Nat × O)) = []))))) (by kernel_rfl)
  | p11 y1 y2 h1 h2 h3 h4 h5 h6 =>
    have q1 := lombardref14_Within_l0 h3
    (try simp only [lombardref14_Within_s0, List.map_append, List.map_cons, List.map_nil, List.map_set, List.map_take, List.map_drop, List.map_replicate] at q1)
    have qr : ((.t (boo ((decide (a0.Most ≤ a1.Most))))) : A) = (.t (boo (((decide (a0.Most ≤ a1.Most)))))) := by first | rfl | (simp only [List.map_append, List.map_cons, List.map_nil, List.map_set, List.map_take, List.map_drop, List.map_replicate]; done)
    exact Con_run Try.call19 Try.func19 [] [.dir 13 false, .dir 15 true, .blk 0 [.keep [2, 3, 5, 6, 7] [2, 3]], .loop (.exit 0) [.keep [2, 3, 5, 6] [2, 3]] (lombardref14_Within_os0 a0 a1 (.e1 y1 y2)), .reg 11 [] [(5, .dir true), (12, .dir true), (17, .dir true)]] (by kernel_rfl) (And.intro (beq_eq_false_iff_ne.2 h1) (And.intro (beq_iff_eq.2 h2) (And.intro q1 (And.intro (And.intro (strEq_true h4) (And.intro (decide_eq_true h5) (decide_eq_true h6))) (And.intro qr (rfl : ([] : List (Nat × O)) = [])))))) (by kernel_rfl)
  | p12 y1 y2 h1 h2 h3 h4 h5 h6 =>
    have q1 := lombardref14_Within_l0 h3
    (try simp only [lombardref14_Within_s0, List.map_append, List.map_cons, List.map_nil, List.map_set, List.map_take, List.map_drop, List.map_replicate] at q1)
    have qr : ((.t (boo (false))) : A) = (.t (boo (false))) := by first | rfl | (simp only [List.map_append, List.map_cons, List.map_nil, List.map_set, List.map_take, List.map_drop, List.map_replicate]; done)
    exact Con_run Try.call19 Try.func19 [] [.dir 13 false, .dir 15 true, .blk 0 [.keep [2, 3, 5, 6, 7] [2, 3]], .loop (.exit 0) [.keep [2, 3, 5, 6] [2, 3]] (lombardref14_Within_os0 a0 a1 (.e1 y1 y2)), .reg 11 [] [(5, .dir true), (12, .dir true), (17, .dir false)]] (by kernel_rfl) (And.intro (beq_eq_false_iff_ne.2 h1) (And.intro (beq_iff_eq.2 h2) (And.intro q1 (And.intro (And.intro (strEq_true h4) (And.intro (decide_eq_true h5) (decide_eq_false h6))) (And.intro qr (rfl : ([] : List (Nat × O)) = [])))))) (by kernel_rfl)
  | p13 y1 y2 h1 h2 h3 h4 h5 =>
    have q1 := lombardref14_Within_l0 h3
    (try simp only [lombardref14_Within_s0, List.map_append, List.map_cons, List.map_nil, List.map_set, List.map_take, List.map_drop, List.map_replicate] at q1)
    have qr : ((.t (boo (false))) : A) = (.t (boo (false))) := by first | rfl | (simp only [List.map_append, List.map_cons, List.map_nil, List.map_set, List.map_take, List.map_drop, List.map_replicate]; done)
    exact Con_run Try.call19 Try.func19 [] [.dir 13 false, .dir 15 true, .blk 0 [.keep [2, 3, 5, 6, 7] [2, 3]], .loop (.exit 0) [.keep [2, 3, 5, 6] [2, 3]] (lombardref14_Within_os0 a0 a1 (.e1 y1 y2)), .reg 11 [] [(5, .dir true), (12, .dir false)]] (by kernel_rfl) (And.intro (beq_eq_false_iff_ne.2 h1) (And.intro (beq_iff_eq.2 h2) (And.intro q1 (And.intro (And.intro (strEq_true h4) (decide_eq_false h5)) (And.intro qr (rfl : ([] : List (Nat × O)) = [])))))) (by kernel_rfl)
  | p14 y1 y2 h1 h2 h3 h4 =>
    have q1 := lombardref14_Within_l0 h3
    (try simp only [lombardref14_Within_s0, List.map_append, List.map_cons, List.map_nil, List.map_set, List.map_take, List.map_drop, List.map_replicate] at q1)
    have qr : ((.t (boo (false))) : A) = (.t (boo (false))) := by first | rfl | (simp only [List.map_append, List.map_cons, List.map_nil, List.map_set, List.map_take, List.map_drop, List.map_replicate]; done)
    exact Con_run Try.call19 Try.func19 [] [.dir 13 false, .dir 15 true, .blk 0 [.keep [2, 3, 5, 6, 7] [2, 3]], .loop (.exit 0) [.keep [2, 3, 5, 6] [2, 3]] (lombardref14_Within_os0 a0 a1 (.e1 y1 y2)), .reg 11 [] [(5, .dir false)]] (by kernel_rfl) (And.intro (beq_eq_false_iff_ne.2 h1) (And.intro (beq_iff_eq.2 h2) (And.intro q1 (And.intro (strEq_false h4) (And.intro qr (rfl : ([] : List (Nat × O)) = [])))))) (by kernel_rfl)
  | p15 h1 h2 h3 =>
    have q1 := lombardref14_Within_l0 h3
    (try simp only [lombardref14_Within_s0, List.map_append, List.map_cons, List.map_nil, List.map_set, List.map_take, List.map_drop, List.map_replicate] at q1)
    have qr : ((.t (boo (false))) : A) = (.t (boo (false))) := by first | rfl | (simp only [List.map_append, List.map_cons, List.map_nil, List.map_set, List.map_take, List.map_drop, List.map_replicate]; done)
    exact Con_run Try.call19 Try.func19 [] [.dir 13 false, .dir 15 false, .blk 0 [.keep [2, 3, 5, 6, 7] [2, 3]], .loop .ret [.keep [4] []] (lombardref14_Within_os0 a0 a1 (.e0))] (by kernel_rfl) (And.intro (beq_eq_false_iff_ne.2 h1) (And.intro (beq_eq_false_iff_ne.2 h2) (And.intro q1 (And.intro qr (rfl : ([] : List (Nat × O)) = []))))) (by kernel_rfl)
  | p16 y1 y2 h1 h2 h3 h4 h5 h6 =>
    have q1 := lombardref14_Within_l0 h3
    (try simp only [lombardref14_Within_s0, List.map_append, List.map_cons, List.map_nil, List.map_set, List.map_take, List.map_drop, List.map_replicate] at q1)
    have qr : ((.t (boo ((decide (a0.Most ≤ a1.Most))))) : A) = (.t (boo (((decide (a0.Most ≤ a1.Most)))))) := by first | rfl | (simp only [List.map_append, List.map_cons, List.map_nil, List.map_set, List.map_take, List.map_drop, List.map_replicate]; done)
    exact Con_run Try.call19 Try.func19 [] [.dir 13 false, .dir 15 false, .blk 0 [.keep [2, 3, 5, 6, 7] [2, 3]], .loop (.exit 0) [.keep [2, 3, 5, 6] [2, 3]] (lombardref14_Within_os0 a0 a1 (.e1 y1 y2)), .reg 11 [] [(5, .dir true), (12, .dir true), (17, .dir true)]] (by kernel_rfl) (And.intro (beq_eq_false_iff_ne.2 h1) (And.intro (beq_eq_false_iff_ne.2 h2) (And.intro q1 (And.intro (And.intro (strEq_true h4) (And.intro (decide_eq_true h5) (decide_eq_true h6))) (And.intro qr (rfl : ([] : List (Nat × O)) = [])))))) (by kernel_rfl)
  | p17 y1 y2 h1 h2 h3 h4 h5 h6 =>
    have q1 := lombardref14_Within_l0 h3
    (try simp only [lombardref14_Within_s0, List.map_append, List.map_cons, List.map_nil, List.map_set, List.map_take, List.map_drop, List.map_replicate] at q1)
    have qr : ((.t (boo (false))) : A) = (.t (boo (false))) := by first | rfl | (simp only [List.map_append, List.map_cons, List.map_nil, List.map_set, List.map_take, List.map_drop, List.map_replicate]; done)
    exact Con_run Try.call19 Try.func19 [] [.dir 13 false, .dir 15 false, .blk 0 [.keep [2, 3, 5, 6, 7] [2, 3]], .loop (.exit 0) [.keep [2, 3, 5, 6] [2, 3]] (lombardref14_Within_os0 a0 a1 (.e1 y1 y2)), .reg 11 [] [(5, .dir true), (12, .dir true), (17, .dir false)]] (by kernel_rfl) (And.intro (beq_eq_false_iff_ne.2 h1) (And.intro (beq_eq_false_iff_ne.2 h2) (And.intro q1 (And.intro (And.intro (strEq_true h4) (And.intro (decide_eq_true h5) (decide_eq_false h6))) (And.intro qr (rfl : ([] : List (Nat × O)) = [])))))) (by kernel_rfl)
  | p18 y1 y2 h1 h2 h3 h4 h5 =>
    have q1 := lombardref14_Within_l0 h3
    (try simp only [lombardref14_Within_s0, List.map_append, List.map_cons, List.map_nil, List.map_set, List.map_take, List.map_drop, List.map_replicate] at q1)
    have qr : ((.t (boo (false))) : A) = (.t (boo (false))) := by first | rfl | (simp only [List.map_append, List.map_cons, List.map_nil, List.map_set, List.map_take, List.map_drop, List.map_replicate]; done)
    exact Con_run Try.call19 Try.func19 [] [.dir 13 false, .dir 15 false, .blk 0 [.keep [2, 3, 5, 6, 7] [2, 3]], .loop (.exit 0) [.keep [2, 3, 5, 6] [2, 3]] (lombardref14_Within_os0 a0 a1 (.e1 y1 y2)), .reg 11 [] [(5, .dir true), (12, .dir false)]] (by kernel_rfl) (And.intro (beq_eq_false_iff_ne.2 h1) (And.intro (beq_eq_false_iff_ne.2 h2) (And.intro q1 (And.intro (And.intro (strEq_true h4) (decide_eq_false h5)) (And.intro qr (rfl : ([] : List (Nat × O)) = [])))))) (by kernel_rfl)
  | p19 y1 y2 h1 h2 h3 h4 =>
    have q1 := lombardref14_Within_l0 h3
    (try simp only [lombardref14_Within_s0, List.map_append, List.map_cons, List.map_nil, List.map_set, List.map_take, List.map_drop, List.map_replicate] at q1)
    have qr : ((.t (boo (false))) : A) = (.t (boo (false))) := by first | rfl | (simp only [List.map_append, List.map_cons, List.map_nil, List.map_set, List.map_take, List.map_drop, List.map_replicate]; done)
    exact Con_run Try.call19 Try.func19 [] [.dir 13 false, .dir 15 false, .blk 0 [.keep [2, 3, 5, 6, 7] [2, 3]], .loop (.exit 0) [.keep [2, 3, 5, 6] [2, 3]] (lombardref14_Within_os0 a0 a1 (.e1 y1 y2)), .reg 11 [] [(5, .dir false)]] (by kernel_rfl) (And.intro (beq_eq_false_iff_ne.2 h1) (And.intro (beq_eq_false_iff_ne.2 h2) (And.intro q1 (And.intro (strEq_false h4) (And.intro qr (rfl : ([] : List (Nat × O)) = [])))))) (by kernel_rfl)
def lombardref14_Within_wp (a0 : api_Basket) (a1 : api_Basket) (Q : Bool → Prop) : Prop := (if a0.Least = 0 then ((if a1.Least = 0 then (∃ o, lombardref14_Within_L0 a0 a1 1 1 0 o ∧ (match o with | .e0 => (Q false) | .e1 y1 y2 => ((if a0.Currency = a1.Currency then ((if a0.Rating ≤ a1.Rating then ((if y1 ≥ y2 then (Q (decide (a0.Most ≤ a1.Most))) else (Q false))) else (Q false))) else (Q false))))) else (∃ o, lombardref14_Within_L0 a0 a1 a1.Least 1 0 o ∧ (match o with | .e0 => (Q false) | .e1 y1 y2 => ((if a0.Currency = a1.Currency then ((if a0.Rating ≤ a1.Rating then ((if y1 ≥ y2 then (Q (decide (a0.Most ≤ a1.Most))) else (Q false))) else (Q false))) else (Q false))))))) else ((if a1.Least = 0 then (∃ o, lombardref14_Within_L0 a0 a1 1 a0.Least 0 o ∧ (match o with | .e0 => (Q false) | .e1 y1 y2 => ((if a0.Currency = a1.Currency then ((if a0.Rating ≤ a1.Rating then ((if y1 ≥ y2 then (Q (decide (a0.Most ≤ a1.Most))) else (Q false))) else (Q false))) else (Q false))))) else (∃ o, lombardref14_Within_L0 a0 a1 a1.Least a0.Least 0 o ∧ (match o with | .e0 => (Q false) | .e1 y1 y2 => ((if a0.Currency = a1.Currency then ((if a0.Rating ≤ a1.Rating then ((if y1 ≥ y2 then (Q (decide (a0.Most ≤ a1.Most))) else (Q false))) else (Q false))) else (Q false))))))))
theorem lombardref14_Within_of {a0 : api_Basket} {a1 : api_Basket} {Q : Bool → Prop} (h : lombardref14_Within_wp a0 a1 Q) : ∃ (r0_ : Bool), lombardref14_Within a0 a1 r0_ ∧ Q r0_ := by
  unfold lombardref14_Within_wp at h
  by_cases hc : a0.Least = 0
  · have h1 : a0.Least = 0 := hc
    replace h := ifP hc h
    by_cases hc : a1.Least = 0
    · have h2 : a1.Least = 0 := hc
      replace h := ifP hc h
      obtain ⟨o, hl, h⟩ := h
      cases o with
      | e0 =>
        have h3 := hl
        exact ⟨_, .p0 h1 h2 h3, h⟩
      | e1 y1 y2 =>
        have h3 := hl
        by_cases hc : a0.Currency = a1.Currency
        · have h4 : a0.Currency = a1.Currency := hc
          replace h := ifP hc h
          by_cases hc : a0.Rating ≤ a1.Rating
          · have h5 : a0.Rating ≤ a1.Rating := hc
            replace h := ifP hc h
            by_cases hc : y1 ≥ y2
            · have h6 : y1 ≥ y2 := hc
              replace h := ifP hc h
              exact ⟨_, .p1 y1 y2 h1 h2 h3 h4 h5 h6, h⟩
            · have h6 : ¬ (y1 ≥ y2) := hc
              replace h := ifN hc h
              exact ⟨_, .p2 y1 y2 h1 h2 h3 h4 h5 h6, h⟩
          · have h5 : ¬ (a0.Rating ≤ a1.Rating) := hc
            replace h := ifN hc h
            exact ⟨_, .p3 y1 y2 h1 h2 h3 h4 h5, h⟩
        · have h4 : a0.Currency ≠ a1.Currency := hc
          replace h := ifN hc h
          exact ⟨_, .p4 y1 y2 h1 h2 h3 h4, h⟩
    · have h2 : a1.Least ≠ 0 := hc
      replace h := ifN hc h
      obtain ⟨o, hl, h⟩ := h
      cases o with
      | e0 =>
        have h3 := hl
        exact ⟨_, .p5 h1 h2 h3, h⟩
      | e1 y1 y2 =>
        have h3 := hl
        by_cases hc : a0.Currency = a1.Currency
        · have h4 : a0.Currency = a1.Currency := hc
          replace h := ifP hc h
          by_cases hc : a0.Rating ≤ a1.Rating
          · have h5 : a0.Rating ≤ a1.Rating := hc
            replace h := ifP hc h
            by_cases hc : y1 ≥ y2
            · have h6 : y1 ≥ y2 := hc
              replace h := ifP hc h
              exact ⟨_, .p6 y1 y2 h1 h2 h3 h4 h5 h6, h⟩
            · have h6 : ¬ (y1 ≥ y2) := hc
              replace h := ifN hc h
              exact ⟨_, .p7 y1 y2 h1 h2 h3 h4 h5 h6, h⟩
          · have h5 : ¬ (a0.Rating ≤ a1.Rating) := hc
            replace h := ifN hc h
            exact ⟨_, .p8 y1 y2 h1 h2 h3 h4 h5, h⟩
        · have h4 : a0.Currency ≠ a1.Currency := hc
          replace h := ifN hc h
          exact ⟨_, .p9 y1 y2 h1 h2 h3 h4, h⟩
  · have h1 : a0.Least ≠ 0 := hc
    replace h := ifN hc h
    by_cases hc : a1.Least = 0
    · have h2 : a1.Least = 0 := hc
      replace h := ifP hc h
      obtain ⟨o, hl, h⟩ := h
      cases o with
      | e0 =>
        have h3 := hl
        exact ⟨_, .p10 h1 h2 h3, h⟩
      | e1 y1 y2 =>
        have h3 := hl
        by_cases hc : a0.Currency = a1.Currency
        · have h4 : a0.Currency = a1.Currency := hc
          replace h := ifP hc h
          by_cases hc : a0.Rating ≤ a1.Rating
          · have h5 : a0.Rating ≤ a1.Rating := hc
            replace h := ifP hc h
            by_cases hc : y1 ≥ y2
            · have h6 : y1 ≥ y2 := hc
              replace h := ifP hc h
              exact ⟨_, .p11 y1 y2 h1 h2 h3 h4 h5 h6, h⟩
            · have h6 : ¬ (y1 ≥ y2) := hc
              replace h := ifN hc h
              exact ⟨_, .p12 y1 y2 h1 h2 h3 h4 h5 h6, h⟩
          · have h5 : ¬ (a0.Rating ≤ a1.Rating) := hc
            replace h := ifN hc h
            exact ⟨_, .p13 y1 y2 h1 h2 h3 h4 h5, h⟩
        · have h4 : a0.Currency ≠ a1.Currency := hc
          replace h := ifN hc h
          exact ⟨_, .p14 y1 y2 h1 h2 h3 h4, h⟩
    · have h2 : a1.Least ≠ 0 := hc
      replace h := ifN hc h
      obtain ⟨o, hl, h⟩ := h
      cases o with
      | e0 =>
        have h3 := hl
        exact ⟨_, .p15 h1 h2 h3, h⟩
      | e1 y1 y2 =>
        have h3 := hl
        by_cases hc : a0.Currency = a1.Currency
        · have h4 : a0.Currency = a1.Currency := hc
          replace h := ifP hc h
          by_cases hc : a0.Rating ≤ a1.Rating
          · have h5 : a0.Rating ≤ a1.Rating := hc
            replace h := ifP hc h
            by_cases hc : y1 ≥ y2
            · have h6 : y1 ≥ y2 := hc
              replace h := ifP hc h
              exact ⟨_, .p16 y1 y2 h1 h2 h3 h4 h5 h6, h⟩
            · have h6 : ¬ (y1 ≥ y2) := hc
              replace h := ifN hc h
              exact ⟨_, .p17 y1 y2 h1 h2 h3 h4 h5 h6, h⟩
          · have h5 : ¬ (a0.Rating ≤ a1.Rating) := hc
            replace h := ifN hc h
            exact ⟨_, .p18 y1 y2 h1 h2 h3 h4 h5, h⟩
        · have h4 : a0.Currency ≠ a1.Currency := hc
          replace h := ifN hc h
          exact ⟨_, .p19 y1 y2 h1 h2 h3 h4, h⟩
inductive lombardlaw14_plain : api_Basket → Prop
  | p0 : lombardlaw14_plain (⟨1, 1, (⟨#[69, 85, 82]⟩ : ByteArray), 5, 30, 1000, [(⟨1000, 20, 0⟩ : api_Cut)], 0, 0, []⟩ : api_Basket)
theorem lombardlaw14_plain_con {r0_ : api_Basket} (h : lombardlaw14_plain r0_) : Con Try.prog 29 [] [] (fun r os => r = (.agg [(.t (.v (.int .i64 (r0_.ID)))), (.t (.v (.int .i64 (r0_.Version)))), (.t (str (r0_.Currency))), (.t (.v (.int .i64 (r0_.Rating)))), (.t (.v (.int .i64 (r0_.Least)))), (.t (.v (.int .i64 (r0_.Most)))), (.t (.sl 3 ((r0_.Cuts : List api_Cut).map api_Cut.enc))), (.t (.v (.int .i64 (r0_.Issuer)))), (.t (.v (.int .i64 (r0_.Asset)))), (.t (.sl 1 ((r0_.Barred : List Int).map (fun x => [.v (.int .i64 x)]))))]) ∧ os = []) := by
  induction h with
  | p0  =>
    have qr : ((.agg [(.t (.v (.int .i64 (1)))), (.t (.v (.int .i64 (1)))), (.t (str ((⟨#[69, 85, 82]⟩ : ByteArray)))), (.t (.v (.int .i64 (5)))), (.t (.v (.int .i64 (30)))), (.t (.v (.int .i64 (1000)))), (.t (.sl 3 [[(.v (.int .i64 (1000))), (.v (.int .i64 (20))), (.v (.int .i64 (0)))]])), (.t (.v (.int .i64 (0)))), (.t (.v (.int .i64 (0)))), (.t (.v (.slice none 0 0)))]) : A) = (.agg [(.t (.v (.int .i64 ((((⟨1, 1, (⟨#[69, 85, 82]⟩ : ByteArray), 5, 30, 1000, [(⟨1000, 20, 0⟩ : api_Cut)], 0, 0, []⟩ : api_Basket))).ID)))), (.t (.v (.int .i64 ((((⟨1, 1, (⟨#[69, 85, 82]⟩ : ByteArray), 5, 30, 1000, [(⟨1000, 20, 0⟩ : api_Cut)], 0, 0, []⟩ : api_Basket))).Version)))), (.t (str ((((⟨1, 1, (⟨#[69, 85, 82]⟩ : ByteArray), 5, 30, 1000, [(⟨1000, 20, 0⟩ : api_Cut)], 0, 0, []⟩ : api_Basket))).Currency))), (.t (.v (.int .i64 ((((⟨1, 1, (⟨#[69, 85, 82]⟩ : ByteArray), 5, 30, 1000, [(⟨1000, 20, 0⟩ : api_Cut)], 0, 0, []⟩ : api_Basket))).Rating)))), (.t (.v (.int .i64 ((((⟨1, 1, (⟨#[69, 85, 82]⟩ : ByteArray), 5, 30, 1000, [(⟨1000, 20, 0⟩ : api_Cut)], 0, 0, []⟩ : api_Basket))).Least)))), (.t (.v (.int .i64 ((((⟨1, 1, (⟨#[69, 85, 82]⟩ : ByteArray), 5, 30, 1000, [(⟨1000, 20, 0⟩ : api_Cut)], 0, 0, []⟩ : api_Basket))).Most)))), (.t (.sl 3 (((((⟨1, 1, (⟨#[69, 85, 82]⟩ : ByteArray), 5, 30, 1000, [(⟨1000, 20, 0⟩ : api_Cut)], 0, 0, []⟩ : api_Basket))).Cuts : List api_Cut).map api_Cut.enc))), (.t (.v (.int .i64 ((((⟨1, 1, (⟨#[69, 85, 82]⟩ : ByteArray), 5, 30, 1000, [(⟨1000, 20, 0⟩ : api_Cut)], 0, 0, []⟩ : api_Basket))).Issuer)))), (.t (.v (.int .i64 ((((⟨1, 1, (⟨#[69, 85, 82]⟩ : ByteArray), 5, 30, 1000, [(⟨1000, 20, 0⟩ : api_Cut)], 0, 0, []⟩ : api_Basket))).Asset)))), (.t (.v (.slice none 0 0)))]) := by first | rfl | (simp only [List.map_append, List.map_cons, List.map_nil, List.map_set, List.map_take, List.map_drop, List.map_replicate]; done)
    exact Con.res (LeA.agg (LeL.cons (LeA.refl _) (LeL.cons (LeA.refl _) (LeL.cons (LeA.refl _) (LeL.cons (LeA.refl _) (LeL.cons (LeA.refl _) (LeL.cons (LeA.refl _) (LeL.cons (LeA.refl _) (LeL.cons (LeA.refl _) (LeL.cons (LeA.refl _) (LeL.cons (LeA.nil 1) LeL.nil))))))))))) <| Con_run Try.call29 Try.func29 [] [] (by kernel_rfl) (And.intro qr (rfl : ([] : List (Nat × O)) = [])) (by kernel_rfl)
def lombardlaw14_plain_wp (Q : api_Basket → Prop) : Prop := Q (⟨1, 1, (⟨#[69, 85, 82]⟩ : ByteArray), 5, 30, 1000, [(⟨1000, 20, 0⟩ : api_Cut)], 0, 0, []⟩ : api_Basket)
theorem lombardlaw14_plain_of {Q : api_Basket → Prop} (h : lombardlaw14_plain_wp Q) : ∃ (r0_ : api_Basket), lombardlaw14_plain r0_ ∧ Q r0_ := by
  unfold lombardlaw14_plain_wp at h
  exact ⟨_, .p0 , h⟩
inductive msg_Basket_1 (a0 : Int) : Bool → Prop
  | p0 (h1 : a0 ≥ 0) : msg_Basket_1 a0 (decide (a0 ≤ 1000000))
  | p1 (h1 : ¬ (a0 ≥ 0)) : msg_Basket_1 a0 false
theorem msg_Basket_1_con {a0 : Int} {r0_ : Bool} (h : msg_Basket_1 a0 r0_) : Con Try.prog 45 [(.t (.v (.int .i64 (a0))))] [] (fun r os => r = (.t (boo (r0_))) ∧ os = []) := by
  induction h with
  | p0 h1 =>
    have qr : ((.t (boo ((decide (a0 ≤ 1000000))))) : A) = (.t (boo (((decide (a0 ≤ 1000000)))))) := by first | rfl | (simp only [List.map_append, List.map_cons, List.map_nil, List.map_set, List.map_take, List.map_drop, List.map_replicate]; done)
    exact Con_run Try.call45 Try.func45 [] [.reg 1 [] [(2, .dir true)]] (by kernel_rfl) (And.intro (decide_eq_true h1) (And.intro qr (rfl : ([] : List (Nat × O)) = []))) (by kernel_rfl)
  | p1 h1 =>
    have qr : ((.t (boo (false))) : A) = (.t (boo (false))) := by first | rfl | (simp only [List.map_append, List.map_cons, List.map_nil, List.map_set, List.map_take, List.map_drop, List.map_replicate]; done)
    exact Con_run Try.call45 Try.func45 [] [.reg 1 [] [(2, .dir false)]] (by kernel_rfl) (And.intro (decide_eq_false h1) (And.intro qr (rfl : ([] : List (Nat × O)) = []))) (by kernel_rfl)
def msg_Basket_1_wp (a0 : Int) (Q : Bool → Prop) : Prop := (if a0 ≥ 0 then (Q (decide (a0 ≤ 1000000))) else (Q false))
theorem msg_Basket_1_of {a0 : Int} {Q : Bool → Prop} (h : msg_Basket_1_wp a0 Q) : ∃ (r0_ : Bool), msg_Basket_1 a0 r0_ ∧ Q r0_ := by
  unfold msg_Basket_1_wp at h
  by_cases hc : a0 ≥ 0
  · have h1 : a0 ≥ 0 := hc
    replace h := ifP hc h
    exact ⟨_, .p0 h1, h⟩
  · have h1 : ¬ (a0 ≥ 0) := hc
    replace h := ifN hc h
    exact ⟨_, .p1 h1, h⟩
inductive isin_Currency (a0 : ByteArray) : Bool → Prop
  | p0 (h1 : a0 = (⟨#[69, 85, 82]⟩ : ByteArray)) : isin_Currency a0 true
  | p1 (h1 : a0 ≠ (⟨#[69, 85, 82]⟩ : ByteArray)) (h2 : a0 = (⟨#[85, 83, 68]⟩ : ByteArray)) : isin_Currency a0 true
  | p2 (h1 : a0 ≠ (⟨#[69, 85, 82]⟩ : ByteArray)) (h2 : a0 ≠ (⟨#[85, 83, 68]⟩ : ByteArray)) (h3 : a0 = (⟨#[71, 66, 80]⟩ : ByteArray)) : isin_Currency a0 true
  | p3 (h1 : a0 ≠ (⟨#[69, 85, 82]⟩ : ByteArray)) (h2 : a0 ≠ (⟨#[85, 83, 68]⟩ : ByteArray)) (h3 : a0 ≠ (⟨#[71, 66, 80]⟩ : ByteArray)) (h4 : a0 = (⟨#[67, 72, 70]⟩ : ByteArray)) : isin_Currency a0 true
  | p4 (h1 : a0 ≠ (⟨#[69, 85, 82]⟩ : ByteArray)) (h2 : a0 ≠ (⟨#[85, 83, 68]⟩ : ByteArray)) (h3 : a0 ≠ (⟨#[71, 66, 80]⟩ : ByteArray)) (h4 : a0 ≠ (⟨#[67, 72, 70]⟩ : ByteArray)) (h5 : a0 = (⟨#[74, 80, 89]⟩ : ByteArray)) : isin_Currency a0 true
  | p5 (h1 : a0 ≠ (⟨#[69, 85, 82]⟩ : ByteArray)) (h2 : a0 ≠ (⟨#[85, 83, 68]⟩ : ByteArray)) (h3 : a0 ≠ (⟨#[71, 66, 80]⟩ : ByteArray)) (h4 : a0 ≠ (⟨#[67, 72, 70]⟩ : ByteArray)) (h5 : a0 ≠ (⟨#[74, 80, 89]⟩ : ByteArray)) (h6 : a0 = (⟨#[83, 69, 75]⟩ : ByteArray)) : isin_Currency a0 true
  | p6 (h1 : a0 ≠ (⟨#[69, 85, 82]⟩ : ByteArray)) (h2 : a0 ≠ (⟨#[85, 83, 68]⟩ : ByteArray)) (h3 : a0 ≠ (⟨#[71, 66, 80]⟩ : ByteArray)) (h4 : a0 ≠ (⟨#[67, 72, 70]⟩ : ByteArray)) (h5 : a0 ≠ (⟨#[74, 80, 89]⟩ : ByteArray)) (h6 : a0 ≠ (⟨#[83, 69, 75]⟩ : ByteArray)) (h7 : a0 = (⟨#[78, 79, 75]⟩ : ByteArray)) : isin_Currency a0 true
  | p7 (h1 : a0 ≠ (⟨#[69, 85, 82]⟩ : ByteArray)) (h2 : a0 ≠ (⟨#[85, 83, 68]⟩ : ByteArray)) (h3 : a0 ≠ (⟨#[71, 66, 80]⟩ : ByteArray)) (h4 : a0 ≠ (⟨#[67, 72, 70]⟩ : ByteArray)) (h5 : a0 ≠ (⟨#[74, 80, 89]⟩ : ByteArray)) (h6 : a0 ≠ (⟨#[83, 69, 75]⟩ : ByteArray)) (h7 : a0 ≠ (⟨#[78, 79, 75]⟩ : ByteArray)) (h8 : a0 = (⟨#[68, 75, 75]⟩ : ByteArray)) : isin_Currency a0 true
  | p8 (h1 : a0 ≠ (⟨#[69, 85, 82]⟩ : ByteArray)) (h2 : a0 ≠ (⟨#[85, 83, 68]⟩ : ByteArray)) (h3 : a0 ≠ (⟨#[71, 66, 80]⟩ : ByteArray)) (h4 : a0 ≠ (⟨#[67, 72, 70]⟩ : ByteArray)) (h5 : a0 ≠ (⟨#[74, 80, 89]⟩ : ByteArray)) (h6 : a0 ≠ (⟨#[83, 69, 75]⟩ : ByteArray)) (h7 : a0 ≠ (⟨#[78, 79, 75]⟩ : ByteArray)) (h8 : a0 ≠ (⟨#[68, 75, 75]⟩ : ByteArray)) : isin_Currency a0 false
theorem isin_Currency_con {a0 : ByteArray} {r0_ : Bool} (h : isin_Currency a0 r0_) : Con Try.prog 46 [(.t (str (a0)))] [] (fun r os => r = (.t (boo (r0_))) ∧ os = []) := by
  induction h with
  | p0 h1 =>
    have qr : ((.t (boo (true))) : A) = (.t (boo (true))) := by first | rfl | (simp only [List.map_append, List.map_cons, List.map_nil, List.map_set, List.map_take, List.map_drop, List.map_replicate]; done)
    exact Con_run Try.call46 Try.func46 [] [.dir 4 true, .dir 4 true] (by kernel_rfl) (And.intro (strEq_true h1) (And.intro (strEq_true h1) (And.intro qr (rfl : ([] : List (Nat × O)) = [])))) (by kernel_rfl)
  | p1 h1 h2 =>
    have qr : ((.t (boo (true))) : A) = (.t (boo (true))) := by first | rfl | (simp only [List.map_append, List.map_cons, List.map_nil, List.map_set, List.map_take, List.map_drop, List.map_replicate]; done)
    exact Con_run Try.call46 Try.func46 [] [.dir 4 false, .dir 4 true, .dir 4 true] (by kernel_rfl) (And.intro (strEq_false h1) (And.intro (strEq_true h2) (And.intro (strEq_true h2) (And.intro qr (rfl : ([] : List (Nat × O)) = []))))) (by kernel_rfl)
  | p2 h1 h2 h3 =>
    have qr : ((.t (boo (true))) : A) = (.t (boo (true))) := by first | rfl | (simp only [List.map_append, List.map_cons, List.map_nil, List.map_set, List.map_take, List.map_drop, List.map_replicate]; done)
    exact Con_run Try.call46 Try.func46 [] [.dir 4 false, .dir 4 false, .dir 4 true, .dir 4 true] (by kernel_rfl) (And.intro (strEq_false h1) (And.intro (strEq_false h2) (And.intro (strEq_true h3) (And.intro (strEq_true h3) (And.intro qr (rfl : ([] : List (Nat × O)) = [])))))) (by kernel_rfl)
  | p3 h1 h2 h3 h4 =>
    have qr : ((.t (boo (true))) : A) = (.t (boo (true))) := by first | rfl | (simp only [List.map_append, List.map_cons, List.map_nil, List.map_set, List.map_take, List.map_drop, List.map_replicate]; done)
    exact Con_run Try.call46 Try.func46 [] [.dir 4 false, .dir 4 false, .dir 4 false, .dir 4 true, .dir 4 true] (by kernel_rfl) (And.intro (strEq_false h1) (And.intro (strEq_false h2) (And.intro (strEq_false h3) (And.intro (strEq_true h4) (And.intro (strEq_true h4) (And.intro qr (rfl : ([] : List (Nat × O)) = []))))))) (by kernel_rfl)
  | p4 h1 h2 h3 h4 h5 =>
    have qr : ((.t (boo (true))) : A) = (.t (boo (true))) := by first | rfl | (simp only [List.map_append, List.map_cons, List.map_nil, List.map_set, List.map_take, List.map_drop, List.map_replicate]; done)
    exact Con_run Try.call46 Try.func46 [] [.dir 4 false, .dir 4 false, .dir 4 false, .dir 4 false, .dir 4 true, .dir 4 true] (by kernel_rfl) (And.intro (strEq_false h1) (And.intro (strEq_false h2) (And.intro (strEq_false h3) (And.intro (strEq_false h4) (And.intro (strEq_true h5) (And.intro (strEq_true h5) (And.intro qr (rfl : ([] : List (Nat × O)) = [])))))))) (by kernel_rfl)
  | p5 h1 h2 h3 h4 h5 h6 =>
    have qr : ((.t (boo (true))) : A) = (.t (boo (true))) := by first | rfl | (simp only [List.map_append, List.map_cons, List.map_nil, List.map_set, List.map_take, List.map_drop, List.map_replicate]; done)
    exact Con_run Try.call46 Try.func46 [] [.dir 4 false, .dir 4 false, .dir 4 false, .dir 4 false, .dir 4 false, .dir 4 true, .dir 4 true] (by kernel_rfl) (And.intro (strEq_false h1) (And.intro (strEq_false h2) (And.intro (strEq_false h3) (And.intro (strEq_false h4) (And.intro (strEq_false h5) (And.intro (strEq_true h6) (And.intro (strEq_true h6) (And.intro qr (rfl : ([] : List (Nat × O)) = []))))))))) (by kernel_rfl)
  | p6 h1 h2 h3 h4 h5 h6 h7 =>
    have qr : ((.t (boo (true))) : A) = (.t (boo (true))) := by first | rfl | (simp only [List.map_append, List.map_cons, List.map_nil, List.map_set, List.map_take, List.map_drop, List.map_replicate]; done)
    exact Con_run Try.call46 Try.func46 [] [.dir 4 false, .dir 4 false, .dir 4 false, .dir 4 false, .dir 4 false, .dir 4 false, .dir 4 true, .dir 4 true] (by kernel_rfl) (And.intro (strEq_false h1) (And.intro (strEq_false h2) (And.intro (strEq_false h3) (And.intro (strEq_false h4) (And.intro (strEq_false h5) (And.intro (strEq_false h6) (And.intro (strEq_true h7) (And.intro (strEq_true h7) (And.intro qr (rfl : ([] : List (Nat × O)) = [])))))))))) (by kernel_rfl)
  | p7 h1 h2 h3 h4 h5 h6 h7 h8 =>
    have qr : ((.t (boo (true))) : A) = (.t (boo (true))) := by first | rfl | (simp only [List.map_append, List.map_cons, List.map_nil, List.map_set, List.map_take, List.map_drop, List.map_replicate]; done)
    exact Con_run Try.call46 Try.func46 [] [.dir 4 false, .dir 4 false, .dir 4 false, .dir 4 false, .dir 4 false, .dir 4 false, .dir 4 false, .dir 4 true] (by kernel_rfl) (And.intro (strEq_false h1) (And.intro (strEq_false h2) (And.intro (strEq_false h3) (And.intro (strEq_false h4) (And.intro (strEq_false h5) (And.intro (strEq_false h6) (And.intro (strEq_false h7) (And.intro (strEq_true h8) (And.intro qr (rfl : ([] : List (Nat × O)) = [])))))))))) (by kernel_rfl)
  | p8 h1 h2 h3 h4 h5 h6 h7 h8 =>
    have qr : ((.t (boo (false))) : A) = (.t (boo (false))) := by first | rfl | (simp only [List.map_append, List.map_cons, List.map_nil, List.map_set, List.map_take, List.map_drop, List.map_replicate]; done)
    exact Con_run Try.call46 Try.func46 [] [.dir 4 false, .dir 4 false, .dir 4 false, .dir 4 false, .dir 4 false, .dir 4 false, .dir 4 false, .dir 4 false] (by kernel_rfl) (And.intro (strEq_false h1) (And.intro (strEq_false h2) (And.intro (strEq_false h3) (And.intro (strEq_false h4) (And.intro (strEq_false h5) (And.intro (strEq_false h6) (And.intro (strEq_false h7) (And.intro (strEq_false h8) (And.intro qr (rfl : ([] : List (Nat × O)) = [])))))))))) (by kernel_rfl)
def isin_Currency_wp (a0 : ByteArray) (Q : Bool → Prop) : Prop := (if a0 = (⟨#[69, 85, 82]⟩ : ByteArray) then (Q true) else ((if a0 = (⟨#[85, 83, 68]⟩ : ByteArray) then (Q true) else ((if a0 = (⟨#[71, 66, 80]⟩ : ByteArray) then (Q true) else ((if a0 = (⟨#[67, 72, 70]⟩ : ByteArray) then (Q true) else ((if a0 = (⟨#[74, 80, 89]⟩ : ByteArray) then (Q true) else ((if a0 = (⟨#[83, 69, 75]⟩ : ByteArray) then (Q true) else ((if a0 = (⟨#[78, 79, 75]⟩ : ByteArray) then (Q true) else ((if a0 = (⟨#[68, 75, 75]⟩ : ByteArray) then (Q true) else (Q false))))))))))))))))
theorem isin_Currency_of {a0 : ByteArray} {Q : Bool → Prop} (h : isin_Currency_wp a0 Q) : ∃ (r0_ : Bool), isin_Currency a0 r0_ ∧ Q r0_ := by
  unfold isin_Currency_wp at h
  by_cases hc : a0 = (⟨#[69, 85, 82]⟩ : ByteArray)
  · have h1 : a0 = (⟨#[69, 85, 82]⟩ : ByteArray) := hc
    replace h := ifP hc h
    exact ⟨_, .p0 h1, h⟩
  · have h1 : a0 ≠ (⟨#[69, 85, 82]⟩ : ByteArray) := hc
    replace h := ifN hc h
    by_cases hc : a0 = (⟨#[85, 83, 68]⟩ : ByteArray)
    · have h2 : a0 = (⟨#[85, 83, 68]⟩ : ByteArray) := hc
      replace h := ifP hc h
      exact ⟨_, .p1 h1 h2, h⟩
    · have h2 : a0 ≠ (⟨#[85, 83, 68]⟩ : ByteArray) := hc
      replace h := ifN hc h
      by_cases hc : a0 = (⟨#[71, 66, 80]⟩ : ByteArray)
      · have h3 : a0 = (⟨#[71, 66, 80]⟩ : ByteArray) := hc
        replace h := ifP hc h
        exact ⟨_, .p2 h1 h2 h3, h⟩
      · have h3 : a0 ≠ (⟨#[71, 66, 80]⟩ : ByteArray) := hc
        replace h := ifN hc h
        by_cases hc : a0 = (⟨#[67, 72, 70]⟩ : ByteArray)
        · have h4 : a0 = (⟨#[67, 72, 70]⟩ : ByteArray) := hc
          replace h := ifP hc h
          exact ⟨_, .p3 h1 h2 h3 h4, h⟩
        · have h4 : a0 ≠ (⟨#[67, 72, 70]⟩ : ByteArray) := hc
          replace h := ifN hc h
          by_cases hc : a0 = (⟨#[74, 80, 89]⟩ : ByteArray)
          · have h5 : a0 = (⟨#[74, 80, 89]⟩ : ByteArray) := hc
            replace h := ifP hc h
            exact ⟨_, .p4 h1 h2 h3 h4 h5, h⟩
          · have h5 : a0 ≠ (⟨#[74, 80, 89]⟩ : ByteArray) := hc
            replace h := ifN hc h
            by_cases hc : a0 = (⟨#[83, 69, 75]⟩ : ByteArray)
            · have h6 : a0 = (⟨#[83, 69, 75]⟩ : ByteArray) := hc
              replace h := ifP hc h
              exact ⟨_, .p5 h1 h2 h3 h4 h5 h6, h⟩
            · have h6 : a0 ≠ (⟨#[83, 69, 75]⟩ : ByteArray) := hc
              replace h := ifN hc h
              by_cases hc : a0 = (⟨#[78, 79, 75]⟩ : ByteArray)
              · have h7 : a0 = (⟨#[78, 79, 75]⟩ : ByteArray) := hc
                replace h := ifP hc h
                exact ⟨_, .p6 h1 h2 h3 h4 h5 h6 h7, h⟩
              · have h7 : a0 ≠ (⟨#[78, 79, 75]⟩ : ByteArray) := hc
                replace h := ifN hc h
                by_cases hc : a0 = (⟨#[68, 75, 75]⟩ : ByteArray)
                · have h8 : a0 = (⟨#[68, 75, 75]⟩ : ByteArray) := hc
                  replace h := ifP hc h
                  exact ⟨_, .p7 h1 h2 h3 h4 h5 h6 h7 h8, h⟩
                · have h8 : a0 ≠ (⟨#[68, 75, 75]⟩ : ByteArray) := hc
                  replace h := ifN hc h
                  exact ⟨_, .p8 h1 h2 h3 h4 h5 h6 h7 h8, h⟩
inductive msg_Basket_O1 where
  | e0
  | e1
inductive msg_Basket_L1 (a0 : api_Basket) : Int → msg_Basket_O1 → Prop
  | p0 (s1_0 : Int) (xb1 : Int) (h1 : s1_0 < (lenM (fun x => [.v (.int .i64 x)]) a0.Barred)) (h2 : 0 ≤ s1_0) (h3 : a0.Barred[(s1_0).toNat]? = some xb1) (h4 : xb1 < 0) : msg_Basket_L1 a0 s1_0 (.e0)
  | p1 (s1_0 : Int) (xb1 : Int) (h1 : s1_0 < (lenM (fun x => [.v (.int .i64 x)]) a0.Barred)) (h2 : 0 ≤ s1_0) (h3 : a0.Barred[(s1_0).toNat]? = some xb1) (h4 : ¬ (xb1 < 0)) (h5 : xb1 > 9999) : msg_Basket_L1 a0 s1_0 (.e0)
  | p2 (s1_0 : Int) (xb1 : Int) (xb2 : Int) (h1 : s1_0 < (lenM (fun x => [.v (.int .i64 x)]) a0.Barred)) (h2 : 0 ≤ s1_0) (h3 : a0.Barred[(s1_0).toNat]? = some xb1) (h4 : ¬ (xb1 < 0)) (h5 : ¬ (xb1 > 9999)) (h6 : s1_0 > 0) (h7 : InR ((s1_0 - 1))) (h8 : 0 ≤ (s1_0 - 1)) (h9 : a0.Barred[((s1_0 - 1)).toNat]? = some xb2) (h10 : xb1 ≤ xb2) : msg_Basket_L1 a0 s1_0 (.e0)
  | p3 (s1_0 : Int) (xb1 : Int) (xb2 : Int) {o : msg_Basket_O1} (h1 : s1_0 < (lenM (fun x => [.v (.int .i64 x)]) a0.Barred)) (h2 : 0 ≤ s1_0) (h3 : a0.Barred[(s1_0).toNat]? = some xb1) (h4 : ¬ (xb1 < 0)) (h5 : ¬ (xb1 > 9999)) (h6 : s1_0 > 0) (h7 : InR ((s1_0 - 1))) (h8 : 0 ≤ (s1_0 - 1)) (h9 : a0.Barred[((s1_0 - 1)).toNat]? = some xb2) (h10 : ¬ (xb1 ≤ xb2)) (h11 : InR ((s1_0 + 1))) (hr : msg_Basket_L1 a0 (s1_0 + 1) o) : msg_Basket_L1 a0 s1_0 o
  | p4 (s1_0 : Int) (xb1 : Int) {o : msg_Basket_O1} (h1 : s1_0 < (lenM (fun x => [.v (.int .i64 x)]) a0.Barred)) (h2 : 0 ≤ s1_0) (h3 : a0.Barred[(s1_0).toNat]? = some xb1) (h4 : ¬ (xb1 < 0)) (h5 : ¬ (xb1 > 9999)) (h6 : ¬ (s1_0 > 0)) (h7 : InR ((s1_0 + 1))) (hr : msg_Basket_L1 a0 (s1_0 + 1) o) : msg_Basket_L1 a0 s1_0 o
  | p5 (s1_0 : Int) (h1 : ¬ (s1_0 < (lenM (fun x => [.v (.int .i64 x)]) a0.Barred))) : msg_Basket_L1 a0 s1_0 (.e1)
inductive msg_Basket_O0 where
  | e0
  | e1
inductive msg_Basket_L0 (a0 : api_Basket) : Int → msg_Basket_O0 → Prop
  | p0 (s0_0 : Int) (xa1 : api_Cut) (h1 : s0_0 < (lenM api_Cut.enc a0.Cuts)) (h2 : 0 ≤ s0_0) (h3 : a0.Cuts[(s0_0).toNat]? = some xa1) (h4 : xa1.Days < 0) : msg_Basket_L0 a0 s0_0 (.e0)
  | p1 (s0_0 : Int) (xa1 : api_Cut) (h1 : s0_0 < (lenM api_Cut.enc a0.Cuts)) (h2 : 0 ≤ s0_0) (h3 : a0.Cuts[(s0_0).toNat]? = some xa1) (h4 : ¬ (xa1.Days < 0)) (h5 : xa1.Days > 200000) : msg_Basket_L0 a0 s0_0 (.e0)
  | p2 (s0_0 : Int) (xa1 : api_Cut) (h1 : s0_0 < (lenM api_Cut.enc a0.Cuts)) (h2 : 0 ≤ s0_0) (h3 : a0.Cuts[(s0_0).toNat]? = some xa1) (h4 : ¬ (xa1.Days < 0)) (h5 : ¬ (xa1.Days > 200000)) (h6 : xa1.Rating < 0) : msg_Basket_L0 a0 s0_0 (.e0)
  | p3 (s0_0 : Int) (xa1 : api_Cut) (h1 : s0_0 < (lenM api_Cut.enc a0.Cuts)) (h2 : 0 ≤ s0_0) (h3 : a0.Cuts[(s0_0).toNat]? = some xa1) (h4 : ¬ (xa1.Days < 0)) (h5 : ¬ (xa1.Days > 200000)) (h6 : ¬ (xa1.Rating < 0)) (h7 : xa1.Rating > 20) : msg_Basket_L0 a0 s0_0 (.e0)
  | p4 (s0_0 : Int) (xa1 : api_Cut) (h1 : s0_0 < (lenM api_Cut.enc a0.Cuts)) (h2 : 0 ≤ s0_0) (h3 : a0.Cuts[(s0_0).toNat]? = some xa1) (h4 : ¬ (xa1.Days < 0)) (h5 : ¬ (xa1.Days > 200000)) (h6 : ¬ (xa1.Rating < 0)) (h7 : ¬ (xa1.Rating > 20)) (h8 : xa1.Cut < 0) : msg_Basket_L0 a0 s0_0 (.e0)
  | p5 (s0_0 : Int) (xa1 : api_Cut) (h1 : s0_0 < (lenM api_Cut.enc a0.Cuts)) (h2 : 0 ≤ s0_0) (h3 : a0.Cuts[(s0_0).toNat]? = some xa1) (h4 : ¬ (xa1.Days < 0)) (h5 : ¬ (xa1.Days > 200000)) (h6 : ¬ (xa1.Rating < 0)) (h7 : ¬ (xa1.Rating > 20)) (h8 : ¬ (xa1.Cut < 0)) (h9 : xa1.Cut ≥ 1000000) : msg_Basket_L0 a0 s0_0 (.e0)
  | p6 (s0_0 : Int) (xa1 : api_Cut) {o : msg_Basket_O0} (h1 : s0_0 < (lenM api_Cut.enc a0.Cuts)) (h2 : 0 ≤ s0_0) (h3 : a0.Cuts[(s0_0).toNat]? = some xa1) (h4 : ¬ (xa1.Days < 0)) (h5 : ¬ (xa1.Days > 200000)) (h6 : ¬ (xa1.Rating < 0)) (h7 : ¬ (xa1.Rating > 20)) (h8 : ¬ (xa1.Cut < 0)) (h9 : ¬ (xa1.Cut ≥ 1000000)) (h10 : InR ((s0_0 + 1))) (hr : msg_Basket_L0 a0 (s0_0 + 1) o) : msg_Basket_L0 a0 s0_0 o
  | p7 (s0_0 : Int) (h1 : ¬ (s0_0 < (lenM api_Cut.enc a0.Cuts))) : msg_Basket_L0 a0 s0_0 (.e1)
inductive msg_Basket (a0 : api_Basket) : Int → Prop
  | p0 (h1 : a0.ID < 1) : msg_Basket a0 1
  | p1 (h1 : ¬ (a0.ID < 1)) (h2 : a0.ID > 64) : msg_Basket a0 1
  | p2 (h1 : ¬ (a0.ID < 1)) (h2 : ¬ (a0.ID > 64)) (h3 : a0.Version < 1) : msg_Basket a0 1
  | p3 (h1 : ¬ (a0.ID < 1)) (h2 : ¬ (a0.ID > 64)) (h3 : ¬ (a0.Version < 1)) (h4 : a0.Version > 1125899906842624) : msg_Basket a0 1
  | p4 (h1 : ¬ (a0.ID < 1)) (h2 : ¬ (a0.ID > 64)) (h3 : ¬ (a0.Version < 1)) (h4 : ¬ (a0.Version > 1125899906842624)) (h5 : a0.Rating < 0) : msg_Basket a0 1
  | p5 (h1 : ¬ (a0.ID < 1)) (h2 : ¬ (a0.ID > 64)) (h3 : ¬ (a0.Version < 1)) (h4 : ¬ (a0.Version > 1125899906842624)) (h5 : ¬ (a0.Rating < 0)) (h6 : a0.Rating > 20) : msg_Basket a0 1
  | p6 (r1 : Bool) (h1 : ¬ (a0.ID < 1)) (h2 : ¬ (a0.ID > 64)) (h3 : ¬ (a0.Version < 1)) (h4 : ¬ (a0.Version > 1125899906842624)) (h5 : ¬ (a0.Rating < 0)) (h6 : ¬ (a0.Rating > 20)) (h7 : msg_Basket_1 a0.Issuer r1) (h8 : r1 = false) : msg_Basket a0 1
  | p7 (r1 : Bool) (r2 : Bool) (h1 : ¬ (a0.ID < 1)) (h2 : ¬ (a0.ID > 64)) (h3 : ¬ (a0.Version < 1)) (h4 : ¬ (a0.Version > 1125899906842624)) (h5 : ¬ (a0.Rating < 0)) (h6 : ¬ (a0.Rating > 20)) (h7 : msg_Basket_1 a0.Issuer r1) (h8 : r1 = true) (h9 : msg_Basket_1 a0.Asset r2) (h10 : r2 = false) : msg_Basket a0 1
  | p8 (r1 : Bool) (r2 : Bool) (h1 : ¬ (a0.ID < 1)) (h2 : ¬ (a0.ID > 64)) (h3 : ¬ (a0.Version < 1)) (h4 : ¬ (a0.Version > 1125899906842624)) (h5 : ¬ (a0.Rating < 0)) (h6 : ¬ (a0.Rating > 20)) (h7 : msg_Basket_1 a0.Issuer r1) (h8 : r1 = true) (h9 : msg_Basket_1 a0.Asset r2) (h10 : r2 = true) (h11 : (lenM api_Cut.enc a0.Cuts) = 0) : msg_Basket a0 1
  | p9 (r1 : Bool) (r2 : Bool) (h1 : ¬ (a0.ID < 1)) (h2 : ¬ (a0.ID > 64)) (h3 : ¬ (a0.Version < 1)) (h4 : ¬ (a0.Version > 1125899906842624)) (h5 : ¬ (a0.Rating < 0)) (h6 : ¬ (a0.Rating > 20)) (h7 : msg_Basket_1 a0.Issuer r1) (h8 : r1 = true) (h9 : msg_Basket_1 a0.Asset r2) (h10 : r2 = true) (h11 : (lenM api_Cut.enc a0.Cuts) ≠ 0) (h12 : (lenM api_Cut.enc a0.Cuts) > 64) : msg_Basket a0 1
  | p10 (r1 : Bool) (r2 : Bool) (h1 : ¬ (a0.ID < 1)) (h2 : ¬ (a0.ID > 64)) (h3 : ¬ (a0.Version < 1)) (h4 : ¬ (a0.Version > 1125899906842624)) (h5 : ¬ (a0.Rating < 0)) (h6 : ¬ (a0.Rating > 20)) (h7 : msg_Basket_1 a0.Issuer r1) (h8 : r1 = true) (h9 : msg_Basket_1 a0.Asset r2) (h10 : r2 = true) (h11 : (lenM api_Cut.enc a0.Cuts) ≠ 0) (h12 : ¬ ((lenM api_Cut.enc a0.Cuts) > 64)) (h13 : (lenM (fun x => [.v (.int .i64 x)]) a0.Barred) > 64) : msg_Basket a0 1
  | p11 (r1 : Bool) (r2 : Bool) (h1 : ¬ (a0.ID < 1)) (h2 : ¬ (a0.ID > 64)) (h3 : ¬ (a0.Version < 1)) (h4 : ¬ (a0.Version > 1125899906842624)) (h5 : ¬ (a0.Rating < 0)) (h6 : ¬ (a0.Rating > 20)) (h7 : msg_Basket_1 a0.Issuer r1) (h8 : r1 = true) (h9 : msg_Basket_1 a0.Asset r2) (h10 : r2 = true) (h11 : (lenM api_Cut.enc a0.Cuts) ≠ 0) (h12 : ¬ ((lenM api_Cut.enc a0.Cuts) > 64)) (h13 : ¬ ((lenM (fun x => [.v (.int .i64 x)]) a0.Barred) > 64)) (h14 : a0.Least < 0) : msg_Basket a0 10
  | p12 (r1 : Bool) (r2 : Bool) (h1 : ¬ (a0.ID < 1)) (h2 : ¬ (a0.ID > 64)) (h3 : ¬ (a0.Version < 1)) (h4 : ¬ (a0.Version > 1125899906842624)) (h5 : ¬ (a0.Rating < 0)) (h6 : ¬ (a0.Rating > 20)) (h7 : msg_Basket_1 a0.Issuer r1) (h8 : r1 = true) (h9 : msg_Basket_1 a0.Asset r2) (h10 : r2 = true) (h11 : (lenM api_Cut.enc a0.Cuts) ≠ 0) (h12 : ¬ ((lenM api_Cut.enc a0.Cuts) > 64)) (h13 : ¬ ((lenM (fun x => [.v (.int .i64 x)]) a0.Barred) > 64)) (h14 : ¬ (a0.Least < 0)) (h15 : a0.Most < a0.Least) : msg_Basket a0 10
  | p13 (r1 : Bool) (r2 : Bool) (h1 : ¬ (a0.ID < 1)) (h2 : ¬ (a0.ID > 64)) (h3 : ¬ (a0.Version < 1)) (h4 : ¬ (a0.Version > 1125899906842624)) (h5 : ¬ (a0.Rating < 0)) (h6 : ¬ (a0.Rating > 20)) (h7 : msg_Basket_1 a0.Issuer r1) (h8 : r1 = true) (h9 : msg_Basket_1 a0.Asset r2) (h10 : r2 = true) (h11 : (lenM api_Cut.enc a0.Cuts) ≠ 0) (h12 : ¬ ((lenM api_Cut.enc a0.Cuts) > 64)) (h13 : ¬ ((lenM (fun x => [.v (.int .i64 x)]) a0.Barred) > 64)) (h14 : ¬ (a0.Least < 0)) (h15 : ¬ (a0.Most < a0.Least)) (h16 : a0.Most > 200000) : msg_Basket a0 10
  | p14 (r1 : Bool) (r2 : Bool) (r3 : Bool) (h1 : ¬ (a0.ID < 1)) (h2 : ¬ (a0.ID > 64)) (h3 : ¬ (a0.Version < 1)) (h4 : ¬ (a0.Version > 1125899906842624)) (h5 : ¬ (a0.Rating < 0)) (h6 : ¬ (a0.Rating > 20)) (h7 : msg_Basket_1 a0.Issuer r1) (h8 : r1 = true) (h9 : msg_Basket_1 a0.Asset r2) (h10 : r2 = true) (h11 : (lenM api_Cut.enc a0.Cuts) ≠ 0) (h12 : ¬ ((lenM api_Cut.enc a0.Cuts) > 64)) (h13 : ¬ ((lenM (fun x => [.v (.int .i64 x)]) a0.Barred) > 64)) (h14 : ¬ (a0.Least < 0)) (h15 : ¬ (a0.Most < a0.Least)) (h16 : ¬ (a0.Most > 200000)) (h17 : isin_Currency a0.Currency r3) (h18 : r3 = false) : msg_Basket a0 11
  | p15 (r1 : Bool) (r2 : Bool) (r3 : Bool) (h1 : ¬ (a0.ID < 1)) (h2 : ¬ (a0.ID > 64)) (h3 : ¬ (a0.Version < 1)) (h4 : ¬ (a0.Version > 1125899906842624)) (h5 : ¬ (a0.Rating < 0)) (h6 : ¬ (a0.Rating > 20)) (h7 : msg_Basket_1 a0.Issuer r1) (h8 : r1 = true) (h9 : msg_Basket_1 a0.Asset r2) (h10 : r2 = true) (h11 : (lenM api_Cut.enc a0.Cuts) ≠ 0) (h12 : ¬ ((lenM api_Cut.enc a0.Cuts) > 64)) (h13 : ¬ ((lenM (fun x => [.v (.int .i64 x)]) a0.Barred) > 64)) (h14 : ¬ (a0.Least < 0)) (h15 : ¬ (a0.Most < a0.Least)) (h16 : ¬ (a0.Most > 200000)) (h17 : isin_Currency a0.Currency r3) (h18 : r3 = true) (h19 : msg_Basket_L0 a0 0 (.e0)) : msg_Basket a0 1
  | p16 (r1 : Bool) (r2 : Bool) (r3 : Bool) (h1 : ¬ (a0.ID < 1)) (h2 : ¬ (a0.ID > 64)) (h3 : ¬ (a0.Version < 1)) (h4 : ¬ (a0.Version > 1125899906842624)) (h5 : ¬ (a0.Rating < 0)) (h6 : ¬ (a0.Rating > 20)) (h7 : msg_Basket_1 a0.Issuer r1) (h8 : r1 = true) (h9 : msg_Basket_1 a0.Asset r2) (h10 : r2 = true) (h11 : (lenM api_Cut.enc a0.Cuts) ≠ 0) (h12 : ¬ ((lenM api_Cut.enc a0.Cuts) > 64)) (h13 : ¬ ((lenM (fun x => [.v (.int .i64 x)]) a0.Barred) > 64)) (h14 : ¬ (a0.Least < 0)) (h15 : ¬ (a0.Most < a0.Least)) (h16 : ¬ (a0.Most > 200000)) (h17 : isin_Currency a0.Currency r3) (h18 : r3 = true) (h19 : msg_Basket_L0 a0 0 (.e1)) (h20 : msg_Basket_L1 a0 0 (.e0)) : msg_Basket a0 1
  | p17 (r1 : Bool) (r2 : Bool) (r3 : Bool) (h1 : ¬ (a0.ID < 1)) (h2 : ¬ (a0.ID > 64)) (h3 : ¬ (a0.Version < 1)) (h4 : ¬ (a0.Version > 1125899906842624)) (h5 : ¬ (a0.Rating < 0)) (h6 : ¬ (a0.Rating > 20)) (h7 : msg_Basket_1 a0.Issuer r1) (h8 : r1 = true) (h9 : msg_Basket_1 a0.Asset r2) (h10 : r2 = true) (h11 : (lenM api_Cut.enc a0.Cuts) ≠ 0) (h12 : ¬ ((lenM api_Cut.enc a0.Cuts) > 64)) (h13 : ¬ ((lenM (fun x => [.v (.int .i64 x)]) a0.Barred) > 64)) (h14 : ¬ (a0.Least < 0)) (h15 : ¬ (a0.Most < a0.Least)) (h16 : ¬ (a0.Most > 200000)) (h17 : isin_Currency a0.Currency r3) (h18 : r3 = true) (h19 : msg_Basket_L0 a0 0 (.e1)) (h20 : msg_Basket_L1 a0 0 (.e1)) : msg_Basket a0 0
def msg_Basket_s1 (a0 : api_Basket) (s1_0 : Int) : St := mkSt [(1, (.at 1 0)), (126, (.t (.sl 1 ((a0.Barred : List Int).map (fun x => [.v (.int .i64 x)]))))), (127, (.t (.v (.int .i64 ((lenM (fun x => [.v (.int .i64 x)]) a0.Barred)))))), (128, (.t (.v (.int .i64 (s1_0)))))] [(1, (.box [(.t (.v (.int .i64 (a0.ID)))), (.t (.v (.int .i64 (a0.Version)))), (.t (str (a0.Currency))), (.t (.v (.int .i64 (a0.Rating)))), (.t (.v (.int .i64 (a0.Least)))), (.t (.v (.int .i64 (a0.Most)))), (.t (.sl 3 ((a0.Cuts : List api_Cut).map api_Cut.enc))), (.t (.v (.int .i64 (a0.Issuer)))), (.t (.v (.int .i64 (a0.Asset)))), (.t (.sl 1 ((a0.Barred : List Int).map (fun x => [.v (.int .i64 x)]))))]))] []
def msg_Basket_oe1 : msg_Basket_O1 → Exit
  | .e0 => .ret
  | .e1 => .exit 3
def msg_Basket_op1 : msg_Basket_O1 → List Prep
  | .e0 => [.keep [2] []]
  | .e1 => [.keep [] []]
def msg_Basket_os1 (a0 : api_Basket) : msg_Basket_O1 → St
  | .e0 => mkSt [(2, (.t (.v (.int .i64 (1)))))] [] []
  | .e1 => mkSt [] [] []
theorem msg_Basket_l1 {a0 : api_Basket} {s1_0 : Int} {o : msg_Basket_O1} (h : msg_Basket_L1 a0 s1_0 o) : LW Try.prog 154 (loopAt Try.f32 1) (At (msg_Basket_oe1 o) (msg_Basket_op1 o) (msg_Basket_os1 a0 o)) (msg_Basket_s1 a0 s1_0) := by
  induction h with
  | p0 s1_0 xb1 h1 h2 h3 h4 =>
    have qe : mkSt [(2, (.t (.v (.int .i64 (1)))))] [] [] = msg_Basket_os1 a0 (.e0) := by first | rfl | (simp only [msg_Basket_os1, List.map_append, List.map_cons, List.map_nil, List.map_set, List.map_take, List.map_drop, List.map_replicate]; done)
    exact LW_run [.dir 129 true, .reg 18 [] [(1, .row (s1_0).toNat [(.v (.int .i64 (xb1)))])], .reg 19 [] [(2, .dir true)]] [] (And.intro (decide_eq_true h1) (And.intro (And.intro (Int.toNat_of_nonneg h2).symm (get_map (f := (fun x => [.v (.int .i64 x)])) h3)) (And.intro (decide_eq_true h4) (And.intro (rfl : (.ret : Exit) = .ret) qe)))) (by kernel_rfl)
  | p1 s1_0 xb1 h1 h2 h3 h4 h5 =>
    have qe : mkSt [(2, (.t (.v (.int .i64 (1)))))] [] [] = msg_Basket_os1 a0 (.e0) := by first | rfl | (simp only [msg_Basket_os1, List.map_append, List.map_cons, List.map_nil, List.map_set, List.map_take, List.map_drop, List.map_replicate]; done)
    exact LW_run [.dir 129 true, .reg 18 [] [(1, .row (s1_0).toNat [(.v (.int .i64 (xb1)))])], .reg 19 [] [(2, .dir false), (6, .dir true)]] [] (And.intro (decide_eq_true h1) (And.intro (And.intro (Int.toNat_of_nonneg h2).symm (get_map (f := (fun x => [.v (.int .i64 x)])) h3)) (And.intro (And.intro (decide_eq_false h4) (decide_eq_true h5)) (And.intro (rfl : (.ret : Exit) = .ret) qe)))) (by kernel_rfl)
  | p2 s1_0 xb1 xb2 h1 h2 h3 h4 h5 h6 h7 h8 h9 h10 =>
    have qe : mkSt [(2, (.t (.v (.int .i64 (1)))))] [] [] = msg_Basket_os1 a0 (.e0) := by first | rfl | (simp only [msg_Basket_os1, List.map_append, List.map_cons, List.map_nil, List.map_set, List.map_take, List.map_drop, List.map_replicate]; done)
    exact LW_run [.dir 129 true, .reg 18 [] [(1, .row (s1_0).toNat [(.v (.int .i64 (xb1)))])], .reg 19 [] [(2, .dir false), (6, .dir false), (9, .dir true), (14, .nw), (15, .row ((s1_0 - 1)).toNat [(.v (.int .i64 (xb2)))])], .dir 152 true] [] (And.intro (decide_eq_true h1) (And.intro (And.intro (Int.toNat_of_nonneg h2).symm (get_map (f := (fun x => [.v (.int .i64 x)])) h3)) (And.intro (And.intro (decide_eq_false h4) (And.intro (decide_eq_false h5) (And.intro (decide_eq_true h6) (And.intro h7 (And.intro (Int.toNat_of_nonneg h8).symm (get_map (f := (fun x => [.v (.int .i64 x)])) h9)))))) (And.intro (decide_eq_true h10) (And.intro (rfl : (.ret : Exit) = .ret) qe))))) (by kernel_rfl)
  | p3 s1_0 xb1 xb2 h1 h2 h3 h4 h5 h6 h7 h8 h9 h10 h11 hr ih =>
    (try simp only [msg_Basket_s1, List.map_append, List.map_cons, List.map_nil, List.map_set, List.map_take, List.map_drop, List.map_replicate] at ih)
    exact LW_run [.dir 129 true, .reg 18 [] [(1, .row (s1_0).toNat [(.v (.int .i64 (xb1)))])], .reg 19 [] [(2, .dir false), (6, .dir false), (9, .dir true), (14, .nw), (15, .row ((s1_0 - 1)).toNat [(.v (.int .i64 (xb2)))])], .dir 152 false, .reg 21 [] [(0, .nw)]] [.keep [1, 126, 127, 128] [1]] (And.intro (decide_eq_true h1) (And.intro (And.intro (Int.toNat_of_nonneg h2).symm (get_map (f := (fun x => [.v (.int .i64 x)])) h3)) (And.intro (And.intro (decide_eq_false h4) (And.intro (decide_eq_false h5) (And.intro (decide_eq_true h6) (And.intro h7 (And.intro (Int.toNat_of_nonneg h8).symm (get_map (f := (fun x => [.v (.int .i64 x)])) h9)))))) (And.intro (decide_eq_false h10) (And.intro h11 ih))))) (by kernel_rfl)
  | p4 s1_0 xb1 h1 h2 h3 h4 h5 h6 h7 hr ih =>
    (try simp only [msg_Basket_s1, List.map_append, List.map_cons, List.map_nil, List.map_set, List.map_take, List.map_drop, List.map_replicate] at ih)
    exact LW_run [.dir 129 true, .reg 18 [] [(1, .row (s1_0).toNat [(.v (.int .i64 (xb1)))])], .reg 19 [] [(2, .dir false), (6, .dir false), (9, .dir false)], .reg 21 [] [(0, .nw)]] [.keep [1, 126, 127, 128] [1]] (And.intro (decide_eq_true h1) (And.intro (And.intro (Int.toNat_of_nonneg h2).symm (get_map (f := (fun x => [.v (.int .i64 x)])) h3)) (And.intro (And.intro (decide_eq_false h4) (And.intro (decide_eq_false h5) (decide_eq_false h6))) (And.intro h7 ih)))) (by kernel_rfl)
  | p5 s1_0 h1 =>
    have qe : mkSt [] [] [] = msg_Basket_os1 a0 (.e1) := by first | rfl | (simp only [msg_Basket_os1, List.map_append, List.map_cons, List.map_nil, List.map_set, List.map_take, List.map_drop, List.map_replicate]; done)
    exact LW_run [.dir 129 false] [] (And.intro (decide_eq_false h1) (And.intro (rfl : ((.exit 3) : Exit) = (.exit 3)) qe)) (by kernel_rfl)
def msg_Basket_w1 (a0 : api_Basket) (s1_0 : Int) (Q : msg_Basket_O1 → Prop) : Prop := (if s1_0 < (lenM (fun x => [.v (.int .i64 x)]) a0.Barred) then ((0 ≤ s1_0) ∧ (∃ xb1 : Int, (a0.Barred[(s1_0).toNat]? = some xb1) ∧ ((if xb1 < 0 then (Q (.e0)) else ((if xb1 > 9999 then (Q (.e0)) else ((if s1_0 > 0 then ((InR ((s1_0 - 1))) ∧ ((0 ≤ (s1_0 - 1)) ∧ (∃ xb2 : Int, (a0.Barred[((s1_0 - 1)).toNat]? = some xb2) ∧ ((if xb1 ≤ xb2 then (Q (.e0)) else ((InR ((s1_0 + 1))) ∧ (∃ o, msg_Basket_L1 a0 (s1_0 + 1) o ∧ Q o))))))) else ((InR ((s1_0 + 1))) ∧ (∃ o, msg_Basket_L1 a0 (s1_0 + 1) o ∧ Q o)))))))))) else (Q (.e1)))
theorem msg_Basket_of1 {a0 : api_Basket} {s1_0 : Int} {Q : msg_Basket_O1 → Prop} (h : msg_Basket_w1 a0 s1_0 Q) : ∃ o, msg_Basket_L1 a0 s1_0 o ∧ Q o := by
  unfold msg_Basket_w1 at h
  by_cases hc : s1_0 < (lenM (fun x => [.v (.int .i64 x)]) a0.Barred)
  · have h1 : s1_0 < (lenM (fun x => [.v (.int .i64 x)]) a0.Barred) := hc
    replace h := ifP hc h
    obtain ⟨h2, h⟩ := h
    obtain ⟨xb1, h⟩ := h
    obtain ⟨h3, h⟩ := h
    by_cases hc : xb1 < 0
    · have h4 : xb1 < 0 := hc
      replace h := ifP hc h
      exact ⟨_, .p0 s1_0 xb1 h1 h2 h3 h4, h⟩
    · have h4 : ¬ (xb1 < 0) := hc
      replace h := ifN hc h
      by_cases hc : xb1 > 9999
      · have h5 : xb1 > 9999 := hc
        replace h := ifP hc h
        exact ⟨_, .p1 s1_0 xb1 h1 h2 h3 h4 h5, h⟩
      · have h5 : ¬ (xb1 > 9999) := hc
        replace h := ifN hc h
        by_cases hc : s1_0 > 0
        · have h6 : s1_0 > 0 := hc
          replace h := ifP hc h
          obtain ⟨h7, h⟩ := h
          obtain ⟨h8, h⟩ := h
          obtain ⟨xb2, h⟩ := h
          obtain ⟨h9, h⟩ := h
          by_cases hc : xb1 ≤ xb2
          · have h10 : xb1 ≤ xb2 := hc
            replace h := ifP hc h
            exact ⟨_, .p2 s1_0 xb1 xb2 h1 h2 h3 h4 h5 h6 h7 h8 h9 h10, h⟩
          · have h10 : ¬ (xb1 ≤ xb2) := hc
            replace h := ifN hc h
            obtain ⟨h11, h⟩ := h
            obtain ⟨o, hr, h⟩ := h; exact ⟨o, .p3 s1_0 xb1 xb2 h1 h2 h3 h4 h5 h6 h7 h8 h9 h10 h11 hr, h⟩
        · have h6 : ¬ (s1_0 > 0) := hc
          replace h := ifN hc h
          obtain ⟨h7, h⟩ := h
          obtain ⟨o, hr, h⟩ := h; exact ⟨o, .p4 s1_0 xb1 h1 h2 h3 h4 h5 h6 h7 hr, h⟩
  · have h1 : ¬ (s1_0 < (lenM (fun x => [.v (.int .i64 x)]) a0.Barred)) := hc
    replace h := ifN hc h
    exact ⟨_, .p5 s1_0 h1, h⟩
def msg_Basket_s0 (a0 : api_Basket) (s0_0 : Int) : St := mkSt [(1, (.at 1 0)), (90, (.t (.sl 3 ((a0.Cuts : List api_Cut).map api_Cut.enc)))), (91, (.t (.v (.int .i64 ((lenM api_Cut.enc a0.Cuts)))))), (92, (.t (.v (.int .i64 (s0_0)))))] [(1, (.box [(.t (.v (.int .i64 (a0.ID)))), (.t (.v (.int .i64 (a0.Version)))), (.t (str (a0.Currency))), (.t (.v (.int .i64 (a0.Rating)))), (.t (.v (.int .i64 (a0.Least)))), (.t (.v (.int .i64 (a0.Most)))), (.t (.sl 3 ((a0.Cuts : List api_Cut).map api_Cut.enc))), (.t (.v (.int .i64 (a0.Issuer)))), (.t (.v (.int .i64 (a0.Asset)))), (.t (.sl 1 ((a0.Barred : List Int).map (fun x => [.v (.int .i64 x)]))))]))] []
def msg_Basket_oe0 : msg_Basket_O0 → Exit
  | .e0 => .ret
  | .e1 => .exit 1
def msg_Basket_op0 : msg_Basket_O0 → List Prep
  | .e0 => [.keep [2] []]
  | .e1 => [.keep [1] [1]]
def msg_Basket_os0 (a0 : api_Basket) : msg_Basket_O0 → St
  | .e0 => mkSt [(2, (.t (.v (.int .i64 (1)))))] [] []
  | .e1 => mkSt [(1, (.at 1 0))] [(1, (.box [(.t (.v (.int .i64 (a0.ID)))), (.t (.v (.int .i64 (a0.Version)))), (.t (str (a0.Currency))), (.t (.v (.int .i64 (a0.Rating)))), (.t (.v (.int .i64 (a0.Least)))), (.t (.v (.int .i64 (a0.Most)))), (.t (.sl 3 ((a0.Cuts : List api_Cut).map api_Cut.enc))), (.t (.v (.int .i64 (a0.Issuer)))), (.t (.v (.int .i64 (a0.Asset)))), (.t (.sl 1 ((a0.Barred : List Int).map (fun x => [.v (.int .i64 x)]))))]))] []
theorem msg_Basket_l0 {a0 : api_Basket} {s0_0 : Int} {o : msg_Basket_O0} (h : msg_Basket_L0 a0 s0_0 o) : LW Try.prog 154 (loopAt Try.f32 0) (At (msg_Basket_oe0 o) (msg_Basket_op0 o) (msg_Basket_os0 a0 o)) (msg_Basket_s0 a0 s0_0) := by
  induction h with
  | p0 s0_0 xa1 h1 h2 h3 h4 =>
    have qe : mkSt [(2, (.t (.v (.int .i64 (1)))))] [] [] = msg_Basket_os0 a0 (.e0) := by first | rfl | (simp only [msg_Basket_os0, List.map_append, List.map_cons, List.map_nil, List.map_set, List.map_take, List.map_drop, List.map_replicate]; done)
    exact LW_run [.dir 93 true, .reg 12 [] [(0, .row (s0_0).toNat (api_Cut.enc xa1))], .reg 13 [] [(3, .dir true)]] [] (And.intro (decide_eq_true h1) (And.intro (And.intro (Int.toNat_of_nonneg h2).symm (get_map (f := api_Cut.enc) h3)) (And.intro (decide_eq_true h4) (And.intro (rfl : (.ret : Exit) = .ret) qe)))) (by kernel_rfl)
  | p1 s0_0 xa1 h1 h2 h3 h4 h5 =>
    have qe : mkSt [(2, (.t (.v (.int .i64 (1)))))] [] [] = msg_Basket_os0 a0 (.e0) := by first | rfl | (simp only [msg_Basket_os0, List.map_append, List.map_cons, List.map_nil, List.map_set, List.map_take, List.map_drop, List.map_replicate]; done)
    exact LW_run [.dir 93 true, .reg 12 [] [(0, .row (s0_0).toNat (api_Cut.enc xa1))], .reg 13 [] [(3, .dir false), (8, .dir true)]] [] (And.intro (decide_eq_true h1) (And.intro (And.intro (Int.toNat_of_nonneg h2).symm (get_map (f := api_Cut.enc) h3)) (And.intro (And.intro (decide_eq_false h4) (decide_eq_true h5)) (And.intro (rfl : (.ret : Exit) = .ret) qe)))) (by kernel_rfl)
  | p2 s0_0 xa1 h1 h2 h3 h4 h5 h6 =>
    have qe : mkSt [(2, (.t (.v (.int .i64 (1)))))] [] [] = msg_Basket_os0 a0 (.e0) := by first | rfl | (simp only [msg_Basket_os0, List.map_append, List.map_cons, List.map_nil, List.map_set, List.map_take, List.map_drop, List.map_replicate]; done)
    exact LW_run [.dir 93 true, .reg 12 [] [(0, .row (s0_0).toNat (api_Cut.enc xa1))], .reg 13 [] [(3, .dir false), (8, .dir false), (13, .dir true)]] [] (And.intro (decide_eq_true h1) (And.intro (And.intro (Int.toNat_of_nonneg h2).symm (get_map (f := api_Cut.enc) h3)) (And.intro (And.intro (decide_eq_false h4) (And.intro (decide_eq_false h5) (decide_eq_true h6))) (And.intro (rfl : (.ret : Exit) = .ret) qe)))) (by kernel_rfl)
  | p3 s0_0 xa1 h1 h2 h3 h4 h5 h6 h7 =>
    have qe : mkSt [(2, (.t (.v (.int .i64 (1)))))] [] [] = msg_Basket_os0 a0 (.e0) := by first | rfl | (simp only [msg_Basket_os0, List.map_append, List.map_cons, List.map_nil, List.map_set, List.map_take, List.map_drop, List.map_replicate]; done)
    exact LW_run [.dir 93 true, .reg 12 [] [(0, .row (s0_0).toNat (api_Cut.enc xa1))], .reg 13 [] [(3, .dir false), (8, .dir false), (13, .dir false), (18, .dir true)]] [] (And.intro (decide_eq_true h1) (And.intro (And.intro (Int.toNat_of_nonneg h2).symm (get_map (f := api_Cut.enc) h3)) (And.intro (And.intro (decide_eq_false h4) (And.intro (decide_eq_false h5) (And.intro (decide_eq_false h6) (decide_eq_true h7)))) (And.intro (rfl : (.ret : Exit) = .ret) qe)))) (by kernel_rfl)
  | p4 s0_0 xa1 h1 h2 h3 h4 h5 h6 h7 h8 =>
    have qe : mkSt [(2, (.t (.v (.int .i64 (1)))))] [] [] = msg_Basket_os0 a0 (.e0) := by first | rfl | (simp only [msg_Basket_os0, List.map_append, List.map_cons, List.map_nil, List.map_set, List.map_take, List.map_drop, List.map_replicate]; done)
    exact LW_run [.dir 93 true, .reg 12 [] [(0, .row (s0_0).toNat (api_Cut.enc xa1))], .reg 13 [] [(3, .dir false), (8, .dir false), (13, .dir false), (18, .dir false), (23, .dir true)]] [] (And.intro (decide_eq_true h1) (And.intro (And.intro (Int.toNat_of_nonneg h2).symm (get_map (f := api_Cut.enc) h3)) (And.intro (And.intro (decide_eq_false h4) (And.intro (decide_eq_false h5) (And.intro (decide_eq_false h6) (And.intro (decide_eq_false h7) (decide_eq_true h8))))) (And.intro (rfl : (.ret : Exit) = .ret) qe)))) (by kernel_rfl)
  | p5 s0_0 xa1 h1 h2 h3 h4 h5 h6 h7 h8 h9 =>
    have qe : mkSt [(2, (.t (.v (.int .i64 (1)))))] [] [] = msg_Basket_os0 a0 (.e0) := by first | rfl | (simp only [msg_Basket_os0, List.map_append, List.map_cons, List.map_nil, List.map_set, List.map_take, List.map_drop, List.map_replicate]; done)
    exact LW_run [.dir 93 true, .reg 12 [] [(0, .row (s0_0).toNat (api_Cut.enc xa1))], .reg 13 [] [(3, .dir false), (8, .dir false), (13, .dir false), (18, .dir false), (23, .dir false)], .dir 123 true] [] (And.intro (decide_eq_true h1) (And.intro (And.intro (Int.toNat_of_nonneg h2).symm (get_map (f := api_Cut.enc) h3)) (And.intro (And.intro (decide_eq_false h4) (And.intro (decide_eq_false h5) (And.intro (decide_eq_false h6) (And.intro (decide_eq_false h7) (decide_eq_false h8))))) (And.intro (decide_eq_true h9) (And.intro (rfl : (.ret : Exit) = .ret) qe))))) (by kernel_rfl)
  | p6 s0_0 xa1 h1 h2 h3 h4 h5 h6 h7 h8 h9 h10 hr ih =>
    (try simp only [msg_Basket_s0, List.map_append, List.map_cons, List.map_nil, List.map_set, List.map_take, List.map_drop, List.map_replicate] at ih)
    exact LW_run [.dir 93 true, .reg 12 [] [(0, .row (s0_0).toNat (api_Cut.enc xa1))], .reg 13 [] [(3, .dir false), (8, .dir false), (13, .dir false), (18, .dir false), (23, .dir false)], .dir 123 false, .reg 15 [] [(0, .nw)]] [.keep [1, 90, 91, 92] [1]] (And.intro (decide_eq_true h1) (And.intro (And.intro (Int.toNat_of_nonneg h2).symm (get_map (f := api_Cut.enc) h3)) (And.intro (And.intro (decide_eq_false h4) (And.intro (decide_eq_false h5) (And.intro (decide_eq_false h6) (And.intro (decide_eq_false h7) (decide_eq_false h8))))) (And.intro (decide_eq_false h9) (And.intro h10 ih))))) (by kernel_rfl)
  | p7 s0_0 h1 =>
    have qe : mkSt [(1, (.at 1 0))] [(1, (.box [(.t (.v (.int .i64 (a0.ID)))), (.t (.v (.int .i64 (a0.Version)))), (.t (str (a0.Currency))), (.t (.v (.int .i64 (a0.Rating)))), (.t (.v (.int .i64 (a0.Least)))), (.t (.v (.int .i64 (a0.Most)))), (.t (.sl 3 ((a0.Cuts : List api_Cut).map api_Cut.enc))), (.t (.v (.int .i64 (a0.Issuer)))), (.t (.v (.int .i64 (a0.Asset)))), (.t (.sl 1 ((a0.Barred : List Int).map (fun x => [.v (.int .i64 x)]))))]))] [] = msg_Basket_os0 a0 (.e1) := by first | rfl | (simp only [msg_Basket_os0, List.map_append, List.map_cons, List.map_nil, List.map_set, List.map_take, List.map_drop, List.map_replicate]; done)
    exact LW_run [.dir 93 false] [] (And.intro (decide_eq_false h1) (And.intro (rfl : ((.exit 1) : Exit) = (.exit 1)) qe)) (by kernel_rfl)
def msg_Basket_w0 (a0 : api_Basket) (s0_0 : Int) (Q : msg_Basket_O0 → Prop) : Prop := (if s0_0 < (lenM api_Cut.enc a0.Cuts) then ((0 ≤ s0_0) ∧ (∃ xa1 : api_Cut, (a0.Cuts[(s0_0).toNat]? = some xa1) ∧ ((if xa1.Days < 0 then (Q (.e0)) else ((if xa1.Days > 200000 then (Q (.e0)) else ((if xa1.Rating < 0 then (Q (.e0)) else ((if xa1.Rating > 20 then (Q (.e0)) else ((if xa1.Cut < 0 then (Q (.e0)) else ((if xa1.Cut ≥ 1000000 then (Q (.e0)) else ((InR ((s0_0 + 1))) ∧ (∃ o, msg_Basket_L0 a0 (s0_0 + 1) o ∧ Q o)))))))))))))))) else (Q (.e1)))
theorem msg_Basket_of0 {a0 : api_Basket} {s0_0 : Int} {Q : msg_Basket_O0 → Prop} (h : msg_Basket_w0 a0 s0_0 Q) : ∃ o, msg_Basket_L0 a0 s0_0 o ∧ Q o := by
  unfold msg_Basket_w0 at h
  by_cases hc : s0_0 < (lenM api_Cut.enc a0.Cuts)
  · have h1 : s0_0 < (lenM api_Cut.enc a0.Cuts) := hc
    replace h := ifP hc h
    obtain ⟨h2, h⟩ := h
    obtain ⟨xa1, h⟩ := h
    obtain ⟨h3, h⟩ := h
    by_cases hc : xa1.Days < 0
    · have h4 : xa1.Days < 0 := hc
      replace h := ifP hc h
      exact ⟨_, .p0 s0_0 xa1 h1 h2 h3 h4, h⟩
    · have h4 : ¬ (xa1.Days < 0) := hc
      replace h := ifN hc h
      by_cases hc : xa1.Days > 200000
      · have h5 : xa1.Days > 200000 := hc
        replace h := ifP hc h
        exact ⟨_, .p1 s0_0 xa1 h1 h2 h3 h4 h5, h⟩
      · have h5 : ¬ (xa1.Days > 200000) := hc
        replace h := ifN hc h
        by_cases hc : xa1.Rating < 0
        · have h6 : xa1.Rating < 0 := hc
          replace h := ifP hc h
          exact ⟨_, .p2 s0_0 xa1 h1 h2 h3 h4 h5 h6, h⟩
        · have h6 : ¬ (xa1.Rating < 0) := hc
          replace h := ifN hc h
          by_cases hc : xa1.Rating > 20
          · have h7 : xa1.Rating > 20 := hc
            replace h := ifP hc h
            exact ⟨_, .p3 s0_0 xa1 h1 h2 h3 h4 h5 h6 h7, h⟩
          · have h7 : ¬ (xa1.Rating > 20) := hc
            replace h := ifN hc h
            by_cases hc : xa1.Cut < 0
            · have h8 : xa1.Cut < 0 := hc
              replace h := ifP hc h
              exact ⟨_, .p4 s0_0 xa1 h1 h2 h3 h4 h5 h6 h7 h8, h⟩
            · have h8 : ¬ (xa1.Cut < 0) := hc
              replace h := ifN hc h
              by_cases hc : xa1.Cut ≥ 1000000
              · have h9 : xa1.Cut ≥ 1000000 := hc
                replace h := ifP hc h
                exact ⟨_, .p5 s0_0 xa1 h1 h2 h3 h4 h5 h6 h7 h8 h9, h⟩
              · have h9 : ¬ (xa1.Cut ≥ 1000000) := hc
                replace h := ifN hc h
                obtain ⟨h10, h⟩ := h
                obtain ⟨o, hr, h⟩ := h; exact ⟨o, .p6 s0_0 xa1 h1 h2 h3 h4 h5 h6 h7 h8 h9 h10 hr, h⟩
  · have h1 : ¬ (s0_0 < (lenM api_Cut.enc a0.Cuts)) := hc
    replace h := ifN hc h
    exact ⟨_, .p7 s0_0 h1, h⟩
theorem msg_Basket_con {a0 : api_Basket} {r0_ : Int} (h : msg_Basket a0 r0_) : Con Try.prog 32 [(.agg [(.t (.v (.int .i64 (a0.ID)))), (.t (.v (.int .i64 (a0.Version)))), (.t (str (a0.Currency))), (.t (.v (.int .i64 (a0.Rating)))), (.t (.v (.int .i64 (a0.Least)))), (.t (.v (.int .i64 (a0.Most)))), (.t (.sl 3 ((a0.Cuts : List api_Cut).map api_Cut.enc))), (.t (.v (.int .i64 (a0.Issuer)))), (.t (.v (.int .i64 (a0.Asset)))), (.t (.sl 1 ((a0.Barred : List Int).map (fun x => [.v (.int .i64 x)]))))])] [] (fun r os => r = (.t (.v (.int .i64 (r0_)))) ∧ os = []) := by
  induction h with
  | p0 h1 =>
    have qr : ((.t (.v (.int .i64 (1)))) : A) = (.t (.v (.int .i64 (1)))) := by first | rfl | (simp only [List.map_append, List.map_cons, List.map_nil, List.map_set, List.map_take, List.map_drop, List.map_replicate]; done)
    exact Con_run Try.call32 Try.func32 [] [.reg 2 [] [(3, .dir true)]] (by kernel_rfl) (And.intro (decide_eq_true h1) (And.intro qr (rfl : ([] : List (Nat × O)) = []))) (by kernel_rfl)
  | p1 h1 h2 =>
    have qr : ((.t (.v (.int .i64 (1)))) : A) = (.t (.v (.int .i64 (1)))) := by first | rfl | (simp only [List.map_append, List.map_cons, List.map_nil, List.map_set, List.map_take, List.map_drop, List.map_replicate]; done)
    exact Con_run Try.call32 Try.func32 [] [.reg 2 [] [(3, .dir false), (8, .dir true)]] (by kernel_rfl) (And.intro (And.intro (decide_eq_false h1) (decide_eq_true h2)) (And.intro qr (rfl : ([] : List (Nat × O)) = []))) (by kernel_rfl)
  | p2 h1 h2 h3 =>
    have qr : ((.t (.v (.int .i64 (1)))) : A) = (.t (.v (.int .i64 (1)))) := by first | rfl | (simp only [List.map_append, List.map_cons, List.map_nil, List.map_set, List.map_take, List.map_drop, List.map_replicate]; done)
    exact Con_run Try.call32 Try.func32 [] [.reg 2 [] [(3, .dir false), (8, .dir false), (13, .dir true)]] (by kernel_rfl) (And.intro (And.intro (decide_eq_false h1) (And.intro (decide_eq_false h2) (decide_eq_true h3))) (And.intro qr (rfl : ([] : List (Nat × O)) = []))) (by kernel_rfl)
  | p3 h1 h2 h3 h4 =>
    have qr : ((.t (.v (.int .i64 (1)))) : A) = (.t (.v (.int .i64 (1)))) := by first | rfl | (simp only [List.map_append, List.map_cons, List.map_nil, List.map_set, List.map_take, List.map_drop, List.map_replicate]; done)
    exact Con_run Try.call32 Try.func32 [] [.reg 2 [] [(3, .dir false), (8, .dir false), (13, .dir false), (18, .dir true)]] (by kernel_rfl) (And.intro (And.intro (decide_eq_false h1) (And.intro (decide_eq_false h2) (And.intro (decide_eq_false h3) (decide_eq_true h4)))) (And.intro qr (rfl : ([] : List (Nat × O)) = []))) (by kernel_rfl)
  | p4 h1 h2 h3 h4 h5 =>
    have qr : ((.t (.v (.int .i64 (1)))) : A) = (.t (.v (.int .i64 (1)))) := by first | rfl | (simp only [List.map_append, List.map_cons, List.map_nil, List.map_set, List.map_take, List.map_drop, List.map_replicate]; done)
    exact Con_run Try.call32 Try.func32 [] [.reg 2 [] [(3, .dir false), (8, .dir false), (13, .dir false), (18, .dir false), (23, .dir true)]] (by kernel_rfl) (And.intro (And.intro (decide_eq_false h1) (And.intro (decide_eq_false h2) (And.intro (decide_eq_false h3) (And.intro (decide_eq_false h4) (decide_eq_true h5))))) (And.intro qr (rfl : ([] : List (Nat × O)) = []))) (by kernel_rfl)
  | p5 h1 h2 h3 h4 h5 h6 =>
    have qr : ((.t (.v (.int .i64 (1)))) : A) = (.t (.v (.int .i64 (1)))) := by first | rfl | (simp only [List.map_append, List.map_cons, List.map_nil, List.map_set, List.map_take, List.map_drop, List.map_replicate]; done)
    exact Con_run Try.call32 Try.func32 [] [.reg 2 [] [(3, .dir false), (8, .dir false), (13, .dir false), (18, .dir false), (23, .dir false)], .dir 8 true] (by kernel_rfl) (And.intro (And.intro (decide_eq_false h1) (And.intro (decide_eq_false h2) (And.intro (decide_eq_false h3) (And.intro (decide_eq_false h4) (decide_eq_false h5))))) (And.intro (decide_eq_true h6) (And.intro qr (rfl : ([] : List (Nat × O)) = [])))) (by kernel_rfl)
  | p6 r1 h1 h2 h3 h4 h5 h6 h7 h8 =>
    have qr : ((.t (.v (.int .i64 (1)))) : A) = (.t (.v (.int .i64 (1)))) := by first | rfl | (simp only [List.map_append, List.map_cons, List.map_nil, List.map_set, List.map_take, List.map_drop, List.map_replicate]; done)
    exact Con_run Try.call32 Try.func32 [] [.reg 2 [] [(3, .dir false), (8, .dir false), (13, .dir false), (18, .dir false), (23, .dir false)], .dir 8 false, .reg 4 [] [(3, .call [] (.t (boo (r1))) []), (5, .dir true)]] (by kernel_rfl) (And.intro (And.intro (decide_eq_false h1) (And.intro (decide_eq_false h2) (And.intro (decide_eq_false h3) (And.intro (decide_eq_false h4) (decide_eq_false h5))))) (And.intro (decide_eq_false h6) (And.intro (And.intro (msg_Basket_1_con h7) (congrArg Bool.not (h8))) (And.intro qr (rfl : ([] : List (Nat × O)) = []))))) (by kernel_rfl)
  | p7 r1 r2 h1 h2 h3 h4 h5 h6 h7 h8 h9 h10 =>
    have qr : ((.t (.v (.int .i64 (1)))) : A) = (.t (.v (.int .i64 (1)))) := by first | rfl | (simp only [List.map_append, List.map_cons, List.map_nil, List.map_set, List.map_take, List.map_drop, List.map_replicate]; done)
    exact Con_run Try.call32 Try.func32 [] [.reg 2 [] [(3, .dir false), (8, .dir false), (13, .dir false), (18, .dir false), (23, .dir false)], .dir 8 false, .reg 4 [] [(3, .call [] (.t (boo (r1))) []), (5, .dir false), (9, .call [] (.t (boo (r2))) []), (12, .dir true)]] (by kernel_rfl) (And.intro (And.intro (decide_eq_false h1) (And.intro (decide_eq_false h2) (And.intro (decide_eq_false h3) (And.intro (decide_eq_false h4) (decide_eq_false h5))))) (And.intro (decide_eq_false h6) (And.intro (And.intro (msg_Basket_1_con h7) (And.intro (congrArg Bool.not (h8)) (And.intro (msg_Basket_1_con h9) (congrArg Bool.not (h10))))) (And.intro qr (rfl : ([] : List (Nat × O)) = []))))) (by kernel_rfl)
  | p8 r1 r2 h1 h2 h3 h4 h5 h6 h7 h8 h9 h10 h11 =>
    have qr : ((.t (.v (.int .i64 (1)))) : A) = (.t (.v (.int .i64 (1)))) := by first | rfl | (simp only [List.map_append, List.map_cons, List.map_nil, List.map_set, List.map_take, List.map_drop, List.map_replicate]; done)
    exact Con_run Try.call32 Try.func32 [] [.reg 2 [] [(3, .dir false), (8, .dir false), (13, .dir false), (18, .dir false), (23, .dir false)], .dir 8 false, .reg 4 [] [(3, .call [] (.t (boo (r1))) []), (5, .dir false), (9, .call [] (.t (boo (r2))) []), (12, .dir false), (18, .dir true)]] (by kernel_rfl) (And.intro (And.intro (decide_eq_false h1) (And.intro (decide_eq_false h2) (And.intro (decide_eq_false h3) (And.intro (decide_eq_false h4) (decide_eq_false h5))))) (And.intro (decide_eq_false h6) (And.intro (And.intro (msg_Basket_1_con h7) (And.intro (congrArg Bool.not (h8)) (And.intro (msg_Basket_1_con h9) (And.intro (congrArg Bool.not (h10)) (beq_iff_eq.2 h11))))) (And.intro qr (rfl : ([] : List (Nat × O)) = []))))) (by kernel_rfl)
  | p9 r1 r2 h1 h2 h3 h4 h5 h6 h7 h8 h9 h10 h11 h12 =>
    have qr : ((.t (.v (.int .i64 (1)))) : A) = (.t (.v (.int .i64 (1)))) := by first | rfl | (simp only [List.map_append, List.map_cons, List.map_nil, List.map_set, List.map_take, List.map_drop, List.map_replicate]; done)
    exact Con_run Try.call32 Try.func32 [] [.reg 2 [] [(3, .dir false), (8, .dir false), (13, .dir false), (18, .dir false), (23, .dir false)], .dir 8 false, .reg 4 [] [(3, .call [] (.t (boo (r1))) []), (5, .dir false), (9, .call [] (.t (boo (r2))) []), (12, .dir false), (18, .dir false), (24, .dir true)]] (by kernel_rfl) (And.intro (And.intro (decide_eq_false h1) (And.intro (decide_eq_false h2) (And.intro (decide_eq_false h3) (And.intro (decide_eq_false h4) (decide_eq_false h5))))) (And.intro (decide_eq_false h6) (And.intro (And.intro (msg_Basket_1_con h7) (And.intro (congrArg Bool.not (h8)) (And.intro (msg_Basket_1_con h9) (And.intro (congrArg Bool.not (h10)) (And.intro (beq_eq_false_iff_ne.2 h11) (decide_eq_true h12)))))) (And.intro qr (rfl : ([] : List (Nat × O)) = []))))) (by kernel_rfl)
  | p10 r1 r2 h1 h2 h3 h4 h5 h6 h7 h8 h9 h10 h11 h12 h13 =>
    have qr : ((.t (.v (.int .i64 (1)))) : A) = (.t (.v (.int .i64 (1)))) := by first | rfl | (simp only [List.map_append, List.map_cons, List.map_nil, List.map_set, List.map_take, List.map_drop, List.map_replicate]; done)
    exact Con_run Try.call32 Try.func32 [] [.reg 2 [] [(3, .dir false), (8, .dir false), (13, .dir false), (18, .dir false), (23, .dir false)], .dir 8 false, .reg 4 [] [(3, .call [] (.t (boo (r1))) []), (5, .dir false), (9, .call [] (.t (boo (r2))) []), (12, .dir false), (18, .dir false), (24, .dir false)], .dir 37 true] (by kernel_rfl) (And.intro (And.intro (decide_eq_false h1) (And.intro (decide_eq_false h2) (And.intro (decide_eq_false h3) (And.intro (decide_eq_false h4) (decide_eq_false h5))))) (And.intro (decide_eq_false h6) (And.intro (And.intro (msg_Basket_1_con h7) (And.intro (congrArg Bool.not (h8)) (And.intro (msg_Basket_1_con h9) (And.intro (congrArg Bool.not (h10)) (And.intro (beq_eq_false_iff_ne.2 h11) (decide_eq_false h12)))))) (And.intro (decide_eq_true h13) (And.intro qr (rfl : ([] : List (Nat × O)) = [])))))) (by kernel_rfl)
  | p11 r1 r2 h1 h2 h3 h4 h5 h6 h7 h8 h9 h10 h11 h12 h13 h14 =>
    have qr : ((.t (.v (.int .i64 (10)))) : A) = (.t (.v (.int .i64 (10)))) := by first | rfl | (simp only [List.map_append, List.map_cons, List.map_nil, List.map_set, List.map_take, List.map_drop, List.map_replicate]; done)
    exact Con_run Try.call32 Try.func32 [] [.reg 2 [] [(3, .dir false), (8, .dir false), (13, .dir false), (18, .dir false), (23, .dir false)], .dir 8 false, .reg 4 [] [(3, .call [] (.t (boo (r1))) []), (5, .dir false), (9, .call [] (.t (boo (r2))) []), (12, .dir false), (18, .dir false), (24, .dir false)], .dir 37 false, .reg 6 [] [(3, .dir true)]] (by kernel_rfl) (And.intro (And.intro (decide_eq_false h1) (And.intro (decide_eq_false h2) (And.intro (decide_eq_false h3) (And.intro (decide_eq_false h4) (decide_eq_false h5))))) (And.intro (decide_eq_false h6) (And.intro (And.intro (msg_Basket_1_con h7) (And.intro (congrArg Bool.not (h8)) (And.intro (msg_Basket_1_con h9) (And.intro (congrArg Bool.not (h10)) (And.intro (beq_eq_false_iff_ne.2 h11) (decide_eq_false h12)))))) (And.intro (decide_eq_false h13) (And.intro (decide_eq_true h14) (And.intro qr (rfl : ([] : List (Nat × O)) = []))))))) (by kernel_rfl)
  | p12 r1 r2 h1 h2 h3 h4 h5 h6 h7 h8 h9 h10 h11 h12 h13 h14 h15 =>
    have qr : ((.t (.v (.int .i64 (10)))) : A) = (.t (.v (.int .i64 (10)))) := by first | rfl | (simp only [List.map_append, List.map_cons, List.map_nil, List.map_set, List.map_take, List.map_drop, List.map_replicate]; done)
    exact Con_run Try.call32 Try.func32 [] [.reg 2 [] [(3, .dir false), (8, .dir false), (13, .dir false), (18, .dir false), (23, .dir false)], .dir 8 false, .reg 4 [] [(3, .call [] (.t (boo (r1))) []), (5, .dir false), (9, .call [] (.t (boo (r2))) []), (12, .dir false), (18, .dir false), (24, .dir false)], .dir 37 false, .reg 6 [] [(3, .dir false), (10, .dir true)]] (by kernel_rfl) (And.intro (And.intro (decide_eq_false h1) (And.intro (decide_eq_false h2) (And.intro (decide_eq_false h3) (And.intro (decide_eq_false h4) (decide_eq_false h5))))) (And.intro (decide_eq_false h6) (And.intro (And.intro (msg_Basket_1_con h7) (And.intro (congrArg Bool.not (h8)) (And.intro (msg_Basket_1_con h9) (And.intro (congrArg Bool.not (h10)) (And.intro (beq_eq_false_iff_ne.2 h11) (decide_eq_false h12)))))) (And.intro (decide_eq_false h13) (And.intro (And.intro (decide_eq_false h14) (decide_eq_true h15)) (And.intro qr (rfl : ([] : List (Nat × O)) = []))))))) (by kernel_rfl)
  | p13 r1 r2 h1 h2 h3 h4 h5 h6 h7 h8 h9 h10 h11 h12 h13 h14 h15 h16 =>
    have qr : ((.t (.v (.int .i64 (10)))) : A) = (.t (.v (.int .i64 (10)))) := by first | rfl | (simp only [List.map_append, List.map_cons, List.map_nil, List.map_set, List.map_take, List.map_drop, List.map_replicate]; done)
    exact Con_run Try.call32 Try.func32 [] [.reg 2 [] [(3, .dir false), (8, .dir false), (13, .dir false), (18, .dir false), (23, .dir false)], .dir 8 false, .reg 4 [] [(3, .call [] (.t (boo (r1))) []), (5, .dir false), (9, .call [] (.t (boo (r2))) []), (12, .dir false), (18, .dir false), (24, .dir false)], .dir 37 false, .reg 6 [] [(3, .dir false), (10, .dir false)], .dir 68 true] (by kernel_rfl) (And.intro (And.intro (decide_eq_false h1) (And.intro (decide_eq_false h2) (And.intro (decide_eq_false h3) (And.intro (decide_eq_false h4) (decide_eq_false h5))))) (And.intro (decide_eq_false h6) (And.intro (And.intro (msg_Basket_1_con h7) (And.intro (congrArg Bool.not (h8)) (And.intro (msg_Basket_1_con h9) (And.intro (congrArg Bool.not (h10)) (And.intro (beq_eq_false_iff_ne.2 h11) (decide_eq_false h12)))))) (And.intro (decide_eq_false h13) (And.intro (And.intro (decide_eq_false h14) (decide_eq_false h15)) (And.intro (decide_eq_true h16) (And.intro qr (rfl : ([] : List (Nat × O)) = [])))))))) (by kernel_rfl)
  | p14 r1 r2 r3 h1 h2 h3 h4 h5 h6 h7 h8 h9 h10 h11 h12 h13 h14 h15 h16 h17 h18 =>
    have qr : ((.t (.v (.int .i64 (11)))) : A) = (.t (.v (.int .i64 (11)))) := by first | rfl | (simp only [List.map_append, List.map_cons, List.map_nil, List.map_set, List.map_take, List.map_drop, List.map_replicate]; done)
    exact Con_run Try.call32 Try.func32 [] [.reg 2 [] [(3, .dir false), (8, .dir false), (13, .dir false), (18, .dir false), (23, .dir false)], .dir 8 false, .reg 4 [] [(3, .call [] (.t (boo (r1))) []), (5, .dir false), (9, .call [] (.t (boo (r2))) []), (12, .dir false), (18, .dir false), (24, .dir false)], .dir 37 false, .reg 6 [] [(3, .dir false), (10, .dir false)], .dir 68 false, .reg 8 [] [(2, .call [] (.t (boo (r3))) [])], .dir 84 true] (by kernel_rfl) (And.intro (And.intro (decide_eq_false h1) (And.intro (decide_eq_false h2) (And.intro (decide_eq_false h3) (And.intro (decide_eq_false h4) (decide_eq_false h5))))) (And.intro (decide_eq_false h6) (And.intro (And.intro (msg_Basket_1_con h7) (And.intro (congrArg Bool.not (h8)) (And.intro (msg_Basket_1_con h9) (And.intro (congrArg Bool.not (h10)) (And.intro (beq_eq_false_iff_ne.2 h11) (decide_eq_false h12)))))) (And.intro (decide_eq_false h13) (And.intro (And.intro (decide_eq_false h14) (decide_eq_false h15)) (And.intro (decide_eq_false h16) (And.intro (isin_Currency_con h17) (And.intro (congrArg Bool.not (h18)) (And.intro qr (rfl : ([] : List (Nat × O)) = [])))))))))) (by kernel_rfl)
  | p15 r1 r2 r3 h1 h2 h3 h4 h5 h6 h7 h8 h9 h10 h11 h12 h13 h14 h15 h16 h17 h18 h19 =>
    have q1 := msg_Basket_l0 h19
    (try simp only [msg_Basket_s0, List.map_append, List.map_cons, List.map_nil, List.map_set, List.map_take, List.map_drop, List.map_replicate] at q1)
    have qr : ((.t (.v (.int .i64 (1)))) : A) = (.t (.v (.int .i64 (1)))) := by first | rfl | (simp only [List.map_append, List.map_cons, List.map_nil, List.map_set, List.map_take, List.map_drop, List.map_replicate]; done)
    exact Con_run Try.call32 Try.func32 [] [.reg 2 [] [(3, .dir false), (8, .dir false), (13, .dir false), (18, .dir false), (23, .dir false)], .dir 8 false, .reg 4 [] [(3, .call [] (.t (boo (r1))) []), (5, .dir false), (9, .call [] (.t (boo (r2))) []), (12, .dir false), (18, .dir false), (24, .dir false)], .dir 37 false, .reg 6 [] [(3, .dir false), (10, .dir false)], .dir 68 false, .reg 8 [] [(2, .call [] (.t (boo (r3))) [])], .dir 84 false, .blk 1 [.keep [1, 90, 91, 92] [1]], .loop .ret [.keep [2] []] (msg_Basket_os0 a0 (.e0))] (by kernel_rfl) (And.intro (And.intro (decide_eq_false h1) (And.intro (decide_eq_false h2) (And.intro (decide_eq_false h3) (And.intro (decide_eq_false h4) (decide_eq_false h5))))) (And.intro (decide_eq_false h6) (And.intro (And.intro (msg_Basket_1_con h7) (And.intro (congrArg Bool.not (h8)) (And.intro (msg_Basket_1_con h9) (And.intro (congrArg Bool.not (h10)) (And.intro (beq_eq_false_iff_ne.2 h11) (decide_eq_false h12)))))) (And.intro (decide_eq_false h13) (And.intro (And.intro (decide_eq_false h14) (decide_eq_false h15)) (And.intro (decide_eq_false h16) (And.intro (isin_Currency_con h17) (And.intro (congrArg Bool.not (h18)) (And.intro q1 (And.intro qr (rfl : ([] : List (Nat × O)) = []))))))))))) (by kernel_rfl)
  | p16 r1 r2 r3 h1 h2 h3 h4 h5 h6 h7 h8 h9 h10 h11 h12 h13 h14 h15 h16 h17 h18 h19 h20 =>
    have q1 := msg_Basket_l0 h19
    (try simp only [msg_Basket_s0, List.map_append, List.map_cons, List.map_nil, List.map_set, List.map_take, List.map_drop, List.map_replicate] at q1)
    have q2 := msg_Basket_l1 h20
    (try simp only [msg_Basket_s1, List.map_append, List.map_cons, List.map_nil, List.map_set, List.map_take, List.map_drop, List.map_replicate] at q2)
    have qr : ((.t (.v (.int .i64 (1)))) : A) = (.t (.v (.int .i64 (1)))) := by first | rfl | (simp only [List.map_append, List.map_cons, List.map_nil, List.map_set, List.map_take, List.map_drop, List.map_replicate]; done)
    exact Con_run Try.call32 Try.func32 [] [.reg 2 [] [(3, .dir false), (8, .dir false), (13, .dir false), (18, .dir false), (23, .dir false)], .dir 8 false, .reg 4 [] [(3, .call [] (.t (boo (r1))) []), (5, .dir false), (9, .call [] (.t (boo (r2))) []), (12, .dir false), (18, .dir false), (24, .dir false)], .dir 37 false, .reg 6 [] [(3, .dir false), (10, .dir false)], .dir 68 false, .reg 8 [] [(2, .call [] (.t (boo (r3))) [])], .dir 84 false, .blk 1 [.keep [1, 90, 91, 92] [1]], .loop (.exit 1) [.keep [1] [1]] (msg_Basket_os0 a0 (.e1)), .blk 3 [.keep [1, 126, 127, 128] [1]], .loop .ret [.keep [2] []] (msg_Basket_os1 a0 (.e0))] (by kernel_rfl) (And.intro (And.intro (decide_eq_false h1) (And.intro (decide_eq_false h2) (And.intro (decide_eq_false h3) (And.intro (decide_eq_false h4) (decide_eq_false h5))))) (And.intro (decide_eq_false h6) (And.intro (And.intro (msg_Basket_1_con h7) (And.intro (congrArg Bool.not (h8)) (And.intro (msg_Basket_1_con h9) (And.intro (congrArg Bool.not (h10)) (And.intro (beq_eq_false_iff_ne.2 h11) (decide_eq_false h12)))))) (And.intro (decide_eq_false h13) (And.intro (And.intro (decide_eq_false h14) (decide_eq_false h15)) (And.intro (decide_eq_false h16) (And.intro (isin_Currency_con h17) (And.intro (congrArg Bool.not (h18)) (And.intro q1 (And.intro q2 (And.intro qr (rfl : ([] : List (Nat × O)) = [])))))))))))) (by kernel_rfl)
  | p17 r1 r2 r3 h1 h2 h3 h4 h5 h6 h7 h8 h9 h10 h11 h12 h13 h14 h15 h16 h17 h18 h19 h20 =>
    have q1 := msg_Basket_l0 h19
    (try simp only [msg_Basket_s0, List.map_append, List.map_cons, List.map_nil, List.map_set, List.map_take, List.map_drop, List.map_replicate] at q1)
    have q2 := msg_Basket_l1 h20
    (try simp only [msg_Basket_s1, List.map_append, List.map_cons, List.map_nil, List.map_set, List.map_take, List.map_drop, List.map_replicate] at q2)
    have qr : ((.t (.v (.int .i64 (0)))) : A) = (.t (.v (.int .i64 (0)))) := by first | rfl | (simp only [List.map_append, List.map_cons, List.map_nil, List.map_set, List.map_take, List.map_drop, List.map_replicate]; done)
    exact Con_run Try.call32 Try.func32 [] [.reg 2 [] [(3, .dir false), (8, .dir false), (13, .dir false), (18, .dir false), (23, .dir false)], .dir 8 false, .reg 4 [] [(3, .call [] (.t (boo (r1))) []), (5, .dir false), (9, .call [] (.t (boo (r2))) []), (12, .dir false), (18, .dir false), (24, .dir false)], .dir 37 false, .reg 6 [] [(3, .dir false), (10, .dir false)], .dir 68 false, .reg 8 [] [(2, .call [] (.t (boo (r3))) [])], .dir 84 false, .blk 1 [.keep [1, 90, 91, 92] [1]], .loop (.exit 1) [.keep [1] [1]] (msg_Basket_os0 a0 (.e1)), .blk 3 [.keep [1, 126, 127, 128] [1]], .loop (.exit 3) [.keep [] []] (msg_Basket_os1 a0 (.e1))] (by kernel_rfl) (And.intro (And.intro (decide_eq_false h1) (And.intro (decide_eq_false h2) (And.intro (decide_eq_false h3) (And.intro (decide_eq_false h4) (decide_eq_false h5))))) (And.intro (decide_eq_false h6) (And.intro (And.intro (msg_Basket_1_con h7) (And.intro (congrArg Bool.not (h8)) (And.intro (msg_Basket_1_con h9) (And.intro (congrArg Bool.not (h10)) (And.intro (beq_eq_false_iff_ne.2 h11) (decide_eq_false h12)))))) (And.intro (decide_eq_false h13) (And.intro (And.intro (decide_eq_false h14) (decide_eq_false h15)) (And.intro (decide_eq_false h16) (And.intro (isin_Currency_con h17) (And.intro (congrArg Bool.not (h18)) (And.intro q1 (And.intro q2 (And.intro qr (rfl : ([] : List (Nat × O)) = [])))))))))))) (by kernel_rfl)
def msg_Basket_wp (a0 : api_Basket) (Q : Int → Prop) : Prop := (if a0.ID < 1 then (Q 1) else ((if a0.ID > 64 then (Q 1) else ((if a0.Version < 1 then (Q 1) else ((if a0.Version > 1125899906842624 then (Q 1) else ((if a0.Rating < 0 then (Q 1) else ((if a0.Rating > 20 then (Q 1) else (∃ r1 : Bool, (msg_Basket_1 a0.Issuer r1) ∧ ((if r1 = true then (∃ r2 : Bool, (msg_Basket_1 a0.Asset r2) ∧ ((if r2 = true then ((if (lenM api_Cut.enc a0.Cuts) = 0 then (Q 1) else ((if (lenM api_Cut.enc a0.Cuts) > 64 then (Q 1) else ((if (lenM (fun x => [.v (.int .i64 x)]) a0.Barred) > 64 then (Q 1) else ((if a0.Least < 0 then (Q 10) else ((if a0.Most < a0.Least then (Q 10) else ((if a0.Most > 200000 then (Q 10) else (∃ r3 : Bool, (isin_Currency a0.Currency r3) ∧ ((if r3 = true then (∃ o, msg_Basket_L0 a0 0 o ∧ (match o with | .e0 => (Q 1) | .e1 => (∃ o, msg_Basket_L1 a0 0 o ∧ (match o with | .e0 => (Q 1) | .e1 => (Q 0))))) else (Q 11)))))))))))))))) else (Q 1)))) else (Q 1)))))))))))))))
theorem msg_Basket_of {a0 : api_Basket} {Q : Int → Prop} (h : msg_Basket_wp a0 Q) : ∃ (r0_ : Int), msg_Basket a0 r0_ ∧ Q r0_ := by
  unfold msg_Basket_wp at h
  by_cases hc : a0.ID < 1
  · have h1 : a0.ID < 1 := hc
    replace h := ifP hc h
    exact ⟨_, .p0 h1, h⟩
  · have h1 : ¬ (a0.ID < 1) := hc
    replace h := ifN hc h
    by_cases hc : a0.ID > 64
    · have h2 : a0.ID > 64 := hc
      replace h := ifP hc h
      exact ⟨_, .p1 h1 h2, h⟩
    · have h2 : ¬ (a0.ID > 64) := hc
      replace h := ifN hc h
      by_cases hc : a0.Version < 1
      · have h3 : a0.Version < 1 := hc
        replace h := ifP hc h
        exact ⟨_, .p2 h1 h2 h3, h⟩
      · have h3 : ¬ (a0.Version < 1) := hc
        replace h := ifN hc h
        by_cases hc : a0.Version > 1125899906842624
        · have h4 : a0.Version > 1125899906842624 := hc
          replace h := ifP hc h
          exact ⟨_, .p3 h1 h2 h3 h4, h⟩
        · have h4 : ¬ (a0.Version > 1125899906842624) := hc
          replace h := ifN hc h
          by_cases hc : a0.Rating < 0
          · have h5 : a0.Rating < 0 := hc
            replace h := ifP hc h
            exact ⟨_, .p4 h1 h2 h3 h4 h5, h⟩
          · have h5 : ¬ (a0.Rating < 0) := hc
            replace h := ifN hc h
            by_cases hc : a0.Rating > 20
            · have h6 : a0.Rating > 20 := hc
              replace h := ifP hc h
              exact ⟨_, .p5 h1 h2 h3 h4 h5 h6, h⟩
            · have h6 : ¬ (a0.Rating > 20) := hc
              replace h := ifN hc h
              obtain ⟨r1, h⟩ := h
              obtain ⟨h7, h⟩ := h
              by_cases hc : r1 = true
              · have h8 : r1 = true := hc
                replace h := ifP hc h
                obtain ⟨r2, h⟩ := h
                obtain ⟨h9, h⟩ := h
                by_cases hc : r2 = true
                · have h10 : r2 = true := hc
                  replace h := ifP hc h
                  by_cases hc : (lenM api_Cut.enc a0.Cuts) = 0
                  · have h11 : (lenM api_Cut.enc a0.Cuts) = 0 := hc
                    replace h := ifP hc h
                    exact ⟨_, .p8 r1 r2 h1 h2 h3 h4 h5 h6 h7 h8 h9 h10 h11, h⟩
                  · have h11 : (lenM api_Cut.enc a0.Cuts) ≠ 0 := hc
                    replace h := ifN hc h
                    by_cases hc : (lenM api_Cut.enc a0.Cuts) > 64
                    · have h12 : (lenM api_Cut.enc a0.Cuts) > 64 := hc
                      replace h := ifP hc h
                      exact ⟨_, .p9 r1 r2 h1 h2 h3 h4 h5 h6 h7 h8 h9 h10 h11 h12, h⟩
                    · have h12 : ¬ ((lenM api_Cut.enc a0.Cuts) > 64) := hc
                      replace h := ifN hc h
                      by_cases hc : (lenM (fun x => [.v (.int .i64 x)]) a0.Barred) > 64
                      · have h13 : (lenM (fun x => [.v (.int .i64 x)]) a0.Barred) > 64 := hc
                        replace h := ifP hc h
                        exact ⟨_, .p10 r1 r2 h1 h2 h3 h4 h5 h6 h7 h8 h9 h10 h11 h12 h13, h⟩
                      · have h13 : ¬ ((lenM (fun x => [.v (.int .i64 x)]) a0.Barred) > 64) := hc
                        replace h := ifN hc h
                        by_cases hc : a0.Least < 0
                        · have h14 : a0.Least < 0 := hc
                          replace h := ifP hc h
                          exact ⟨_, .p11 r1 r2 h1 h2 h3 h4 h5 h6 h7 h8 h9 h10 h11 h12 h13 h14, h⟩
                        · have h14 : ¬ (a0.Least < 0) := hc
                          replace h := ifN hc h
                          by_cases hc : a0.Most < a0.Least
                          · have h15 : a0.Most < a0.Least := hc
                            replace h := ifP hc h
                            exact ⟨_, .p12 r1 r2 h1 h2 h3 h4 h5 h6 h7 h8 h9 h10 h11 h12 h13 h14 h15, h⟩
                          · have h15 : ¬ (a0.Most < a0.Least) := hc
                            replace h := ifN hc h
                            by_cases hc : a0.Most > 200000
                            · have h16 : a0.Most > 200000 := hc
                              replace h := ifP hc h
                              exact ⟨_, .p13 r1 r2 h1 h2 h3 h4 h5 h6 h7 h8 h9 h10 h11 h12 h13 h14 h15 h16, h⟩
                            · have h16 : ¬ (a0.Most > 200000) := hc
                              replace h := ifN hc h
                              obtain ⟨r3, h⟩ := h
                              obtain ⟨h17, h⟩ := h
                              by_cases hc : r3 = true
                              · have h18 : r3 = true := hc
                                replace h := ifP hc h
                                obtain ⟨o, hl, h⟩ := h
                                cases o with
                                | e0 =>
                                  have h19 := hl
                                  exact ⟨_, .p15 r1 r2 r3 h1 h2 h3 h4 h5 h6 h7 h8 h9 h10 h11 h12 h13 h14 h15 h16 h17 h18 h19, h⟩
                                | e1 =>
                                  have h19 := hl
                                  obtain ⟨o, hl, h⟩ := h
                                  cases o with
                                  | e0 =>
                                    have h20 := hl
                                    exact ⟨_, .p16 r1 r2 r3 h1 h2 h3 h4 h5 h6 h7 h8 h9 h10 h11 h12 h13 h14 h15 h16 h17 h18 h19 h20, h⟩
                                  | e1 =>
                                    have h20 := hl
                                    exact ⟨_, .p17 r1 r2 r3 h1 h2 h3 h4 h5 h6 h7 h8 h9 h10 h11 h12 h13 h14 h15 h16 h17 h18 h19 h20, h⟩
                              · have h18 : r3 = false := bfalse hc
                                replace h := ifN hc h
                                exact ⟨_, .p14 r1 r2 r3 h1 h2 h3 h4 h5 h6 h7 h8 h9 h10 h11 h12 h13 h14 h15 h16 h17 h18, h⟩
                · have h10 : r2 = false := bfalse hc
                  replace h := ifN hc h
                  exact ⟨_, .p7 r1 r2 h1 h2 h3 h4 h5 h6 h7 h8 h9 h10, h⟩
              · have h8 : r1 = false := bfalse hc
                replace h := ifN hc h
                exact ⟨_, .p6 r1 h1 h2 h3 h4 h5 h6 h7 h8, h⟩
inductive slices_Clone_api_Cut_api_Cut (a0 : List api_Cut) : List api_Cut → Prop
  | p0 (h1 : App 24 a0.length) : slices_Clone_api_Cut_api_Cut a0 a0
theorem slices_Clone_api_Cut_api_Cut_con {a0 r0_ : List api_Cut} (h : slices_Clone_api_Cut_api_Cut a0 r0_) : Con Try.prog 47 [(.t (.sl 3 (a0.map api_Cut.enc)))] [] (fun r os => r = (.t (.sl 3 (r0_.map api_Cut.enc))) ∧ os = []) := by
  cases h with
  | p0 h1 =>
    refine Con.split (fun hn => ?_) ?_
    · rw [hn]; exact Con.nilSl 3 (Con_run Try.call47 Try.func47 [] [] (by kernel_rfl) (And.intro rfl rfl : ((.t (.v (.slice none 0 0)) : A) = .t (.v (.slice none 0 0)) ∧ ([] : List (Nat × O)) = [])) (by kernel_rfl))
    · exact Con_run Try.call47 Try.func47 [] [] (by kernel_rfl) (And.intro (app_z (f := api_Cut.enc) h1) (And.intro (rfl : (.t (.sl 3 (a0.map api_Cut.enc)) : A) = .t (.sl 3 (a0.map api_Cut.enc))) (rfl : ([] : List (Nat × O)) = []))) (by kernel_rfl)
inductive slices_Clone_int_int (a0 : List Int) : List Int → Prop
  | p0 (h1 : App 8 a0.length) : slices_Clone_int_int a0 a0
theorem slices_Clone_int_int_con {a0 r0_ : List Int} (h : slices_Clone_int_int a0 r0_) : Con Try.prog 48 [(.t (.sl 1 (a0.map (fun x => [.v (.int .i64 x)]))))] [] (fun r os => r = (.t (.sl 1 (r0_.map (fun x => [.v (.int .i64 x)])))) ∧ os = []) := by
  cases h with
  | p0 h1 =>
    refine Con.split (fun hn => ?_) ?_
    · rw [hn]; exact Con.nilSl 1 (Con_run Try.call48 Try.func48 [] [] (by kernel_rfl) (And.intro rfl rfl : ((.t (.v (.slice none 0 0)) : A) = .t (.v (.slice none 0 0)) ∧ ([] : List (Nat × O)) = [])) (by kernel_rfl))
    · exact Con_run Try.call48 Try.func48 [] [] (by kernel_rfl) (And.intro (app_z (f := (fun x => [.v (.int .i64 x)])) h1) (And.intro (rfl : (.t (.sl 1 (a0.map (fun x => [.v (.int .i64 x)]))) : A) = .t (.sl 1 (a0.map (fun x => [.v (.int .i64 x)])))) (rfl : ([] : List (Nat × O)) = []))) (by kernel_rfl)
inductive basket_copied (a0 : api_Basket) : api_Basket → Prop
  | p0 (r1 : (List api_Cut)) (r2 : (List Int)) (h1 : slices_Clone_api_Cut_api_Cut a0.Cuts r1) (h2 : slices_Clone_int_int a0.Barred r2) : basket_copied a0 (⟨a0.ID, a0.Version, a0.Currency, a0.Rating, a0.Least, a0.Most, r1, a0.Issuer, a0.Asset, r2⟩ : api_Basket)
theorem basket_copied_con {a0 : api_Basket} {r0_ : api_Basket} (h : basket_copied a0 r0_) : Con Try.prog 33 [(.agg [(.t (.v (.int .i64 (a0.ID)))), (.t (.v (.int .i64 (a0.Version)))), (.t (str (a0.Currency))), (.t (.v (.int .i64 (a0.Rating)))), (.t (.v (.int .i64 (a0.Least)))), (.t (.v (.int .i64 (a0.Most)))), (.t (.sl 3 ((a0.Cuts : List api_Cut).map api_Cut.enc))), (.t (.v (.int .i64 (a0.Issuer)))), (.t (.v (.int .i64 (a0.Asset)))), (.t (.sl 1 ((a0.Barred : List Int).map (fun x => [.v (.int .i64 x)]))))])] [] (fun r os => r = (.agg [(.t (.v (.int .i64 (r0_.ID)))), (.t (.v (.int .i64 (r0_.Version)))), (.t (str (r0_.Currency))), (.t (.v (.int .i64 (r0_.Rating)))), (.t (.v (.int .i64 (r0_.Least)))), (.t (.v (.int .i64 (r0_.Most)))), (.t (.sl 3 ((r0_.Cuts : List api_Cut).map api_Cut.enc))), (.t (.v (.int .i64 (r0_.Issuer)))), (.t (.v (.int .i64 (r0_.Asset)))), (.t (.sl 1 ((r0_.Barred : List Int).map (fun x => [.v (.int .i64 x)]))))]) ∧ os = []) := by
  induction h with
  | p0 r1 r2 h1 h2 =>
    have qr : ((.agg [(.t (.v (.int .i64 (a0.ID)))), (.t (.v (.int .i64 (a0.Version)))), (.t (str (a0.Currency))), (.t (.v (.int .i64 (a0.Rating)))), (.t (.v (.int .i64 (a0.Least)))), (.t (.v (.int .i64 (a0.Most)))), (.t (.sl 3 ((r1 : List api_Cut).map api_Cut.enc))), (.t (.v (.int .i64 (a0.Issuer)))), (.t (.v (.int .i64 (a0.Asset)))), (.t (.sl 1 ((r2 : List Int).map (fun x => [.v (.int .i64 x)]))))]) : A) = (.agg [(.t (.v (.int .i64 ((((⟨a0.ID, a0.Version, a0.Currency, a0.Rating, a0.Least, a0.Most, r1, a0.Issuer, a0.Asset, r2⟩ : api_Basket))).ID)))), (.t (.v (.int .i64 ((((⟨a0.ID, a0.Version, a0.Currency, a0.Rating, a0.Least, a0.Most, r1, a0.Issuer, a0.Asset, r2⟩ : api_Basket))).Version)))), (.t (str ((((⟨a0.ID, a0.Version, a0.Currency, a0.Rating, a0.Least, a0.Most, r1, a0.Issuer, a0.Asset, r2⟩ : api_Basket))).Currency))), (.t (.v (.int .i64 ((((⟨a0.ID, a0.Version, a0.Currency, a0.Rating, a0.Least, a0.Most, r1, a0.Issuer, a0.Asset, r2⟩ : api_Basket))).Rating)))), (.t (.v (.int .i64 ((((⟨a0.ID, a0.Version, a0.Currency, a0.Rating, a0.Least, a0.Most, r1, a0.Issuer, a0.Asset, r2⟩ : api_Basket))).Least)))), (.t (.v (.int .i64 ((((⟨a0.ID, a0.Version, a0.Currency, a0.Rating, a0.Least, a0.Most, r1, a0.Issuer, a0.Asset, r2⟩ : api_Basket))).Most)))), (.t (.sl 3 (((((⟨a0.ID, a0.Version, a0.Currency, a0.Rating, a0.Least, a0.Most, r1, a0.Issuer, a0.Asset, r2⟩ : api_Basket))).Cuts : List api_Cut).map api_Cut.enc))), (.t (.v (.int .i64 ((((⟨a0.ID, a0.Version, a0.Currency, a0.Rating, a0.Least, a0.Most, r1, a0.Issuer, a0.Asset, r2⟩ : api_Basket))).Issuer)))), (.t (.v (.int .i64 ((((⟨a0.ID, a0.Version, a0.Currency, a0.Rating, a0.Least, a0.Most, r1, a0.Issuer, a0.Asset, r2⟩ : api_Basket))).Asset)))), (.t (.sl 1 (((((⟨a0.ID, a0.Version, a0.Currency, a0.Rating, a0.Least, a0.Most, r1, a0.Issuer, a0.Asset, r2⟩ : api_Basket))).Barred : List Int).map (fun x => [.v (.int .i64 x)]))))]) := by first | rfl | (simp only [List.map_append, List.map_cons, List.map_nil, List.map_set, List.map_take, List.map_drop, List.map_replicate]; done)
    exact Con_run Try.call33 Try.func33 [] [.reg 1 [] [(2, .call [] (.t (.sl 3 ((r1 : List api_Cut).map api_Cut.enc))) [])], .reg 2 [] [(2, .call [] (.t (.sl 1 ((r2 : List Int).map (fun x => [.v (.int .i64 x)])))) [])]] (by kernel_rfl) (And.intro (slices_Clone_api_Cut_api_Cut_con h1) (And.intro (slices_Clone_int_int_con h2) (And.intro qr (rfl : ([] : List (Nat × O)) = [])))) (by kernel_rfl)
def basket_copied_wp (a0 : api_Basket) (Q : api_Basket → Prop) : Prop := ∃ r1 : (List api_Cut), (slices_Clone_api_Cut_api_Cut a0.Cuts r1) ∧ (∃ r2 : (List Int), (slices_Clone_int_int a0.Barred r2) ∧ (Q (⟨a0.ID, a0.Version, a0.Currency, a0.Rating, a0.Least, a0.Most, r1, a0.Issuer, a0.Asset, r2⟩ : api_Basket)))
theorem basket_copied_of {a0 : api_Basket} {Q : api_Basket → Prop} (h : basket_copied_wp a0 Q) : ∃ (r0_ : api_Basket), basket_copied a0 r0_ ∧ Q r0_ := by
  unfold basket_copied_wp at h
  obtain ⟨r1, h⟩ := h
  obtain ⟨h1, h⟩ := h
  obtain ⟨r2, h⟩ := h
  obtain ⟨h2, h⟩ := h
  exact ⟨_, .p0 r1 r2 h1 h2, h⟩
-- done: 14,15,16,17,18,19,29,32,33,35,36,37,38,39,40,41,45,46,47,48,49,50,53
end Go.Proofs.Ytbhfedfkckddjaa.R
