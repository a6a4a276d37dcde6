/- limit's tables as plain things. -/
import Derived.Test.YtgncepjnbdhmkaaGreatAbX
import Derived.Test.YtgncepjnbdhmkaaGreatRA
set_option linter.unusedVariables false
set_option linter.unusedSimpArgs false
namespace Go.Proofs.YtgncepjnbdhmkaaGreat.Pure
open Go Go.Ab Go.Proofs.YtgncepjnbdhmkaaGreat.R

theorem iok {n : Int} (h : -9223372036854775808 ≤ n ∧ n ≤ 9223372036854775807) : InR n := h

theorem New_1_r {a c : Int} (ha : InR a) (hc : InR c) : limit_New_1_r a c (mulDivS c a 1000000 1).1 := by
  refine limit_New_1_of ?_
  unfold limit_New_1_w
  exact ⟨_, MulDiv_r hc ha (by decide), Rt.i rfl⟩

def newT (b : api_Basket) (need : Int) : limit_Table := ⟨need, (mulDivS need b.Issuer 1000000 1).1, (mulDivS need b.Asset 1000000 1).1, GM.nil, GM.nil, 0⟩
def newOk (b : api_Basket) (need : Int) : Prop := 0 ≤ need ∧ need ≤ 1125899906842624 ∧ 0 ≤ b.Issuer ∧ b.Issuer ≤ 1000000 ∧ 0 ≤ b.Asset ∧ b.Asset ≤ 1000000

theorem New_r1 {b : api_Basket} {need : Int} (h : newOk b need) : limit_New_r1 b need (newT b need, 0) := by
  obtain ⟨h1, h2, h3, h4, h5, h6⟩ := h
  refine limit_New_of1 ?_
  unfold limit_New_w
  refine Br.neg (by omega) (Br.neg (by omega) (Br.neg (by omega) (Br.neg (by omega) (Br.neg (by omega) (Br.neg (by omega) ⟨_, New_1_r (iok (by omega)) (iok (by omega)), _, New_1_r (iok (by omega)) (iok (by omega)), Rt.i rfl⟩)))))

def room (t : limit_Table) (a : api_Asset) : Int := max 0 (min (t.issuer - t.issuers.getD a.Issuer 0) (t.asset - t.assets.getD a.ISIN 0))
/-- What a table holds stays in reach. -/
structure Tok (t : limit_Table) : Prop where
  need : 0 ≤ t.need ∧ t.need ≤ 1125899906842624
  issuer : 0 ≤ t.issuer ∧ t.issuer ≤ 1125899906842624
  asset : 0 ≤ t.asset ∧ t.asset ≤ 1125899906842624
  issuers : ∀ k, 0 ≤ t.issuers.getD k 0 ∧ t.issuers.getD k 0 ≤ t.issuer
  assets : ∀ k, 0 ≤ t.assets.getD k 0 ∧ t.assets.getD k 0 ≤ t.asset
  sum : -4611686018427387904 ≤ t.sum ∧ t.sum ≤ 4611686018427387904

theorem TRoom_r {t : limit_Table} {a : api_Asset} (h : Tok t) : limit_Table_Room_r t a (room t a) := by
  refine limit_Table_Room_of ?_
  unfold limit_Table_Room_w
  have := h.issuers a.Issuer; have := h.assets a.ISIN; have := h.issuer; have := h.asset
  exact ⟨_, _, Look.i (Num.n (by omega) ⟨_, _, Look.i (Num.n (by omega) (Rt.i rfl))⟩)⟩

def putT (t : limit_Table) (a : api_Asset) (n : Int) : limit_Table := ⟨t.need, t.issuer, t.asset, t.issuers.put a.Issuer (t.issuers.getD a.Issuer 0 + n), t.assets.put a.ISIN (t.assets.getD a.ISIN 0 + n), t.sum + n⟩
theorem Tput_r {t : limit_Table} {a : api_Asset} {n : Int} (h : Tok t) (hn : -1125899906842624 ≤ n ∧ n ≤ 1125899906842624) : limit_Table_put_r t a n (putT t a n) := by
  refine limit_Table_put_of ?_
  unfold limit_Table_put_w
  have := h.issuers a.Issuer; have := h.assets a.ISIN; have := h.issuer; have := h.asset; have := h.sum
  exact ⟨_, _, Look.i (Num.n (by omega) ⟨_, Put.i ⟨_, _, Look.i (Num.n (by omega) ⟨_, Put.i (Num.n (by omega) (Rt.i rfl))⟩)⟩⟩)⟩

def addT (t : limit_Table) (a : api_Asset) (n : Int) : Int × limit_Table := if n < 0 then (1, t) else if room t a < n then (24, t) else (0, putT t a n)
theorem room_le {t : limit_Table} {a : api_Asset} (h : Tok t) : 0 ≤ room t a ∧ room t a ≤ 1125899906842624 := by
  have := h.issuers a.Issuer; have := h.assets a.ISIN; have := h.issuer; have := h.asset
  unfold room; omega
theorem TAdd_r {t : limit_Table} {a : api_Asset} {n : Int} (h : Tok t) : limit_Table_Add_r t a n (addT t a n) := by
  refine limit_Table_Add_of ?_
  unfold limit_Table_Add_w addT
  have hr := room_le (a := a) h
  refine Br.i (fun c => Rt.i (by rw [if_pos c])) (fun c => ?_)
  refine ⟨_, TRoom_r h, Br.i (fun c1 => Rt.i (by rw [if_neg c, if_pos c1])) (fun c1 => ⟨_, Tput_r h (by omega), Rt.i (by rw [if_neg c, if_neg c1])⟩)⟩
def openT (t : limit_Table) : Int := max 0 (t.need - t.sum)
theorem TOpen_r {t : limit_Table} (h : Tok t) : limit_Table_Open_r t (openT t) := by
  refine limit_Table_Open_of ?_
  unfold limit_Table_Open_w
  have := h.need; have := h.sum
  exact Num.n (by omega) (Rt.i rfl)

theorem getL_put {κ ν : Type} [DecidableEq κ] {k : κ} {v : ν} {c : Nat} (q : κ) : ∀ l : List (κ × Nat × ν), getL q (putL k v c l) = if q = k then some v else getL q l
  | [] => by simp only [putL, getL]
  | x :: l => by
    simp only [putL]
    split
    · rename_i h
      simp only [getL]
      by_cases hq : q = k
      · simp [hq]
      · have : ¬ q = x.1 := fun e => hq (by rw [e, h])
        rw [if_neg hq, if_neg hq, if_neg this]
    · rename_i h
      simp only [getL]
      rw [getL_put q l]
      by_cases hq : q = k
      · subst hq; rw [if_neg h]; simp
      · simp [hq]
theorem getD_put {κ ν : Type} [DecidableEq κ] {m : GM κ ν} {k : κ} {v z : ν} (q : κ) : (m.put k v).getD q z = if q = k then v else m.getD q z := by
  unfold GM.getD GM.put GM.get?
  show (getL q (putL k v m.clock m.es)).getD z = _
  rw [getL_put]; split <;> rfl

theorem Tok_put {t : limit_Table} {a : api_Asset} {n : Int} (h : Tok t) (h0 : 0 ≤ n) (h1 : n ≤ room t a) (hs : t.sum + n ≤ 4611686018427387904) : Tok (putT t a n) := by
  have := h.issuers a.Issuer; have := h.assets a.ISIN; have := h.issuer; have := h.asset
  unfold room at h1
  refine ⟨h.need, h.issuer, h.asset, fun k => ?_, fun k => ?_, ?_⟩
  · simp only [putT, getD_put]
    split
    · omega
    · exact h.issuers k
  · simp only [putT, getD_put]
    split
    · omega
    · exact h.assets k
  · simp only [putT]; have := h.sum; omega
end Go.Proofs.YtgncepjnbdhmkaaGreat.Pure
