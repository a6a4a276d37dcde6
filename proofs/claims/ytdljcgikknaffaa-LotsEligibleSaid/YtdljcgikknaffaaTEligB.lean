/- Prices are set; what a lot's cover hangs on: the program's and the reference's. -/
import Derived.Test.YtdljcgikknaffaaTBookA
import Derived.Test.YtdljcgikknaffaaTRankR
import Derived.Test.YtdljcgikknaffaaTCloneL
import Derived.Test.YtdljcgikknaffaaDE0
set_option linter.unusedVariables false
set_option linter.unusedSimpArgs false
namespace Go.Proofs.Ytdljcgikknaffaa.Pure
open Go Go.Ab Go.Proofs.Ytdljcgikknaffaa.R
set_option linter.unusedVariables false
theorem idx_A {s : ByteArray} : ∀ {r q : List KN}, r.map (·.A) = q.map (·.A) → idx s r = idx s q ∧ kn s r = kn s q
  | [], [], _ => ⟨rfl, rfl⟩
  | [], _ :: _, h => by cases h
  | _ :: _, [], h => by cases h
  | x :: r, y :: q, h => by
    simp only [List.map_cons, List.cons.injEq] at h
    obtain ⟨h1, h2⟩ := h
    obtain ⟨e1, e2⟩ := idx_A (s := s) h2
    unfold idx at e1 ⊢
    unfold kn at e2 ⊢
    rw [List.takeWhile_cons, List.takeWhile_cons, List.any_cons, List.any_cons, e2, h1]
    refine ⟨?_, rfl⟩
    split
    · rw [List.length_cons, List.length_cons, e1]
    · rfl
theorem ord_A {r q : List KN} (h : Ord r) (e : r.map (·.A) = q.map (·.A)) : Ord q := by
  have h1 : (r.map (·.A)).Pairwise (fun x y => sLt x.ISIN y.ISIN) := List.pairwise_map.2 h
  rw [e] at h1
  exact (List.pairwise_map (f := fun x : KN => x.A) (R := fun x y => sLt x.ISIN y.ISIN)).1 h1
def setS (r : List KN) (p : api_Price) : List KN := match r[idx p.ISIN r]? with
  | some y => r.set (idx p.ISIN r) ⟨y.A, p.Price⟩
  | none => r
theorem setS_A (r : List KN) (p : api_Price) : (setS r p).map (·.A) = r.map (·.A) := by
  unfold setS
  split
  · rename_i y h
    rw [List.map_set]
    refine List.ext_getElem? fun i => ?_
    rw [List.getElem?_set]
    split
    · rename_i e
      subst e
      rw [List.getElem?_map, h]
      split
      · rfl
      · rename_i k
        have := (List.getElem?_eq_some_iff.1 h).1
        rw [List.length_map] at k
        exact absurd this k
    · rfl
  · rfl
theorem setsS_A : ∀ (p : List api_Price) (r : List KN), (p.foldl setS r).map (·.A) = r.map (·.A)
  | [], _ => rfl
  | x :: p, r => by rw [List.foldl_cons, setsS_A p, setS_A]
def errP (r : List KN) : List api_Price → Nat → Option (Int × Int)
  | [], _ => none
  | p :: l, i => if kn p.ISIN r = false then some (i, 21) else if p.Price < 1 then some (i, 31) else if p.Price > 4294967296 then some (i, 31) else errP r l (i + 1)
theorem set_l0 {r : List KN} (h : Ord r) (hl : r.length ≤ 1000000) {p : List api_Price} (hp : p.length ≤ 1000000) {Q0 : Int × Int → Prop} {Q1 : Unit → Prop} : ∀ (n i : Nat), n + i = p.length → (∀ v, errP r (p.drop i) i = some v → Q0 v) → (errP r (p.drop i) i = none → Q1 ()) → asset_Book_Set_L0 p (bk r) Q0 Q1 (i : Int) := by
  intro n
  induction n with
  | zero =>
    intro i hn q0 q1
    refine asset_Book_Set_l0 ?_
    unfold asset_Book_Set_w0
    rw [lenM_eq]
    rw [List.drop_of_length_le (by omega)] at q1
    exact Br.neg (by omega) (Lf.i (q1 rfl))
  | succ n ih =>
    intro i hn q0 q1
    have hi : i < p.length := by omega
    refine asset_Book_Set_l0 ?_
    unfold asset_Book_Set_w0
    rw [lenM_eq]
    rw [List.drop_eq_getElem_cons hi, errP] at q0 q1
    have g : p[(i : Int).toNat]? = some p[i] := by simp [hi]
    refine Br.pos (by omega) ⟨p[i], Got.i ⟨_, place_i h hl _, ?_⟩ (by omega) g⟩
    cases c : kn p[i].ISIN r with
    | false => exact Br.t rfl (Lf.i (q0 _ (by rw [if_pos c])))
    | true =>
      rw [c, if_neg (by decide)] at q0 q1
      refine Br.f rfl (Br.i (fun c1 => Lf.i (q0 _ (by rw [if_pos c1]))) (fun c1 => ?_))
      rw [if_neg c1] at q0 q1
      refine Br.i (fun c2 => Lf.i (q0 _ (by rw [if_pos c2]))) (fun c2 => ?_)
      rw [if_neg c2] at q0 q1
      exact Num.n (by omega) (ih (i + 1) (by omega) q0 q1)
theorem kn_at {r q : List KN} (h : Ord r) (e : q.map (·.A) = r.map (·.A)) {s : ByteArray} (c : kn s r = true) : ∃ y, q[idx s r]? = some y ∧ idx s r < q.length ∧ setS q = setS q := by
  obtain ⟨e1, e2⟩ := idx_A (s := s) e
  obtain ⟨y, h1, _⟩ := kn_idx (ord_A h e.symm) (by rw [e2]; exact c)
  rw [e1] at h1
  exact ⟨y, h1, (List.getElem?_eq_some_iff.1 h1).1, rfl⟩
theorem set_l1 {r : List KN} (h : Ord r) (hl : r.length ≤ 1000000) {p : List api_Price} (hp : p.length ≤ 1000000) {Q : List Int → Prop} : ∀ (n i : Nat) (q : List KN), n + i = p.length → q.map (·.A) = r.map (·.A) → errP r (p.drop i) i = none → Q (((p.drop i).foldl setS q).map (·.Price)) → asset_Book_Set_L1 p (bk r) Q (i : Int) (q.map (·.Price)) := by
  intro n
  induction n with
  | zero =>
    intro i q hn e ok hQ
    refine asset_Book_Set_l1 ?_
    unfold asset_Book_Set_w1
    rw [lenM_eq]
    rw [List.drop_of_length_le (by omega)] at hQ
    exact Br.neg (by omega) (Lf.i hQ)
  | succ n ih =>
    intro i q hn e ok hQ
    have hi : i < p.length := by omega
    refine asset_Book_Set_l1 ?_
    unfold asset_Book_Set_w1
    rw [lenM_eq]
    rw [List.drop_eq_getElem_cons hi, errP] at ok
    rw [List.drop_eq_getElem_cons hi, List.foldl_cons] at hQ
    have g : p[(i : Int).toNat]? = some p[i] := by simp [hi]
    cases c : kn p[i].ISIN r with
    | false => rw [if_pos c] at ok; cases ok
    | true =>
      rw [c, if_neg (by decide)] at ok
      have ok2 : errP r (p.drop (i + 1)) (i + 1) = none := by
        split at ok
        · cases ok
        · split at ok
          · cases ok
          · exact ok
      obtain ⟨y, h1, h2, _⟩ := kn_at h e c
      have g2 : (q.map (·.Price))[((idx p[i].ISIN r : Nat) : Int).toNat]? = some y.Price := by rw [Int.toNat_natCast, List.getElem?_map, h1]; rfl
      have e3 : ((q.map (·.Price)).set ((idx p[i].ISIN r : Nat) : Int).toNat p[i].Price) = (setS q p[i]).map (·.Price) := by
        unfold setS
        rw [(idx_A e).1, h1, Int.toNat_natCast, List.map_set]
      refine Br.pos (by omega) ⟨p[i], Got.i ⟨_, place_i h hl _, InL.i ⟨y.Price, EltS.i (Num.n (by omega) ?_) g2⟩ (by omega) (by rw [Int.toNat_natCast, List.length_map]; exact h2)⟩ (by omega) g⟩
      have := ih (i + 1) (setS q p[i]) (by omega) (by rw [setS_A, e]) ok2 hQ
      rw [← e3] at this
      exact this
theorem rset_l {r : List KN} (h : Ord r) (hl : r.length ≤ 1000000) {p : List api_Price} (hp : p.length ≤ 1000000) {Q0 : Int × Int → Prop} {Q1 : List KN → Prop} : ∀ (n i : Nat) (q : List KN), n + i = p.length → q.map (·.A) = r.map (·.A) → (∀ v, errP r (p.drop i) i = some v → Q0 v) → (errP r (p.drop i) i = none → Q1 ((p.drop i).foldl setS q)) → lombardref13_Set_L0 r p Q0 Q1 (i : Int) q := by
  intro n
  induction n with
  | zero =>
    intro i q hn e q0 q1
    refine lombardref13_Set_l0 ?_
    unfold lombardref13_Set_w0
    rw [lenM_eq]
    rw [List.drop_of_length_le (by omega)] at q1
    exact Br.neg (by omega) (Lf.i (q1 rfl))
  | succ n ih =>
    intro i q hn e q0 q1
    have hi : i < p.length := by omega
    refine lombardref13_Set_l0 ?_
    unfold lombardref13_Set_w0
    rw [lenM_eq]
    rw [List.drop_eq_getElem_cons hi, errP] at q0 q1
    rw [List.foldl_cons] at q1
    have g : p[(i : Int).toNat]? = some p[i] := by simp [hi]
    refine Br.pos (by omega) ⟨p[i], Got.i ⟨_, find_i h hl _, ?_⟩ (by omega) g⟩
    cases c : kn p[i].ISIN r with
    | false =>
      rw [if_neg (by decide)]
      exact Br.pos (by omega) (Lf.i (q0 _ (by rw [if_pos c])))
    | true =>
      rw [c, if_neg (by decide)] at q0 q1
      rw [if_pos rfl]
      refine Br.neg (by omega) (Got.i (Br.i (fun c1 => Lf.i (q0 _ (by rw [if_pos c1]))) (fun c1 => ?_)) (by omega) g)
      rw [if_neg c1] at q0 q1
      refine Got.i (Br.i (fun c2 => Lf.i (q0 _ (by rw [if_pos c2]))) (fun c2 => ?_)) (by omega) g
      rw [if_neg c2] at q0 q1
      obtain ⟨y, h1, h2, _⟩ := kn_at h e c
      have g2 : q[((idx p[i].ISIN r : Nat) : Int).toNat]? = some y := by rw [Int.toNat_natCast]; exact h1
      have e3 : q.set ((idx p[i].ISIN r : Nat) : Int).toNat ⟨y.A, p[i].Price⟩ = setS q p[i] := by
        unfold setS
        rw [(idx_A e).1, h1, Int.toNat_natCast]
      refine Got.i (InL.i ⟨y, EltS.i (Num.n (by omega) ?_) g2⟩ (by omega) (by rw [Int.toNat_natCast]; exact h2)) (by omega) g
      rw [e3]
      exact ih (i + 1) (setS q p[i]) (by omega) (by rw [setS_A, e]) q0 q1
theorem Set_both {r : List KN} (h : Ord r) (hl : r.length ≤ 1000) {p : List api_Price} (hp : p.length ≤ 1000) : ∃ q n e, asset_Book_Set_r (bk r) p (n, e, bk q) ∧ lombardref13_Set_r r p (q, n, e) ∧ q.map (·.A) = r.map (·.A) := by
  cases k : errP r p 0 with
  | some v =>
    refine ⟨r, v.1, v.2, asset_Book_Set_of ?_, lombardref13_Set_of ?_, rfl⟩
    · unfold asset_Book_Set_w
      exact Br.f rfl (set_l0 h (by omega) (by omega) p.length 0 (by omega) (fun u hu => Rt.i (by rw [List.drop_zero] at hu; have : some v = some u := k.symm.trans hu; cases this; rfl)) (fun hu => by rw [List.drop_zero] at hu; have : some v = none := k.symm.trans hu; cases this))
    · unfold lombardref13_Set_w
      refine ApZ.i (app64 (by omega)) (rset_l h (by omega) (by omega) p.length 0 r (by omega) rfl (fun u hu => Rt.i (by rw [List.drop_zero] at hu; have : some v = some u := k.symm.trans hu; cases this; rfl)) (fun hu => by rw [List.drop_zero] at hu; have : some v = none := k.symm.trans hu; cases this))
  | none =>
    refine ⟨p.foldl setS r, (p.length : Nat), 0, asset_Book_Set_of ?_, lombardref13_Set_of ?_, setsS_A _ _⟩
    · unfold asset_Book_Set_w
      rw [lenM_eq]
      refine Br.f rfl (set_l0 h (by omega) (by omega) p.length 0 (by omega) (fun u hu => by rw [List.drop_zero] at hu; have : none = some u := k.symm.trans hu; cases this) (fun _ => ?_))
      refine set_l1 h (by omega) (by omega) p.length 0 r (by omega) rfl (by rw [List.drop_zero]; exact k) (Rt.i ?_)
      rw [List.drop_zero]
      unfold bk
      rw [setsS_A]
    · unfold lombardref13_Set_w
      rw [lenM_eq]
      refine ApZ.i (app64 (by omega)) (rset_l h (by omega) (by omega) p.length 0 r (by omega) rfl (fun u hu => by rw [List.drop_zero] at hu; have : none = some u := k.symm.trans hu; cases this) (fun _ => Rt.i ?_))
      rw [List.drop_zero]
/-! The haircut. -/
def leftS (m day : Int) : Int := if day < 0 then -1 else if day > 200000 then -1 else m - day
theorem Left_r {a : api_Asset} {day : Int} (h : 0 ≤ a.Maturity ∧ a.Maturity ≤ 200000) : asset_Left_r a day (leftS a.Maturity day) := by
  refine asset_Left_of ?_
  unfold asset_Left_w leftS
  refine Br.i (fun c => Rt.i (by rw [if_pos c])) (fun c => Br.i (fun c2 => Rt.i (by rw [if_neg c, if_pos c2])) (fun c2 => Num.n (by omega) (Rt.i (by rw [if_neg c, if_neg c2]))))
theorem RLeft_r {a : api_Asset} {day : Int} (h : 0 ≤ a.Maturity ∧ a.Maturity ≤ 200000) : lombardref13_Left_r a day (leftS a.Maturity day) := by
  refine lombardref13_Left_of ?_
  unfold lombardref13_Left_w leftS
  refine Br.i (fun c => Rt.i (by rw [if_pos c])) (fun c => Br.i (fun c2 => Rt.i (by rw [if_neg c, if_pos c2])) (fun c2 => Num.n (by omega) (Rt.i (by rw [if_neg c, if_neg c2]))))
def cutS (left rt : Int) : List api_Cut → Int × Bool
  | [] => (0, false)
  | c :: l => if left ≤ c.Days ∧ rt ≤ c.Rating then (c.Cut, true) else cutS left rt l
def ofS (b : api_Basket) (a : api_Asset) (day : Int) : Int × Bool := if leftS a.Maturity day < 0 then (0, false) else cutS (leftS a.Maturity day) a.Rating b.Cuts
theorem of_l {left : Int} {b : api_Basket} {a : api_Asset} (hb : b.Cuts.length ≤ 1000000) {P : Int × Bool → Prop} {Q0 : Int → Prop} {Q1 : Unit → Prop} (q0 : ∀ v, P (v, true) → Q0 v) (q1 : P (0, false) → Q1 ()) : ∀ (n i : Nat), n + i = b.Cuts.length → P (cutS left a.Rating (b.Cuts.drop i)) → haircut_Of_L0 left b a Q0 Q1 (i : Int) := by
  intro n
  induction n with
  | zero =>
    intro i hn p
    refine haircut_Of_l0 ?_
    unfold haircut_Of_w0
    rw [lenM_eq]
    rw [List.drop_of_length_le (by omega)] at p
    exact Br.neg (by omega) (Lf.i (q1 p))
  | succ n ih =>
    intro i hn p
    have hi : i < b.Cuts.length := by omega
    refine haircut_Of_l0 ?_
    unfold haircut_Of_w0
    rw [lenM_eq]
    rw [List.drop_eq_getElem_cons hi, cutS] at p
    have g : b.Cuts[(i : Int).toNat]? = some b.Cuts[i] := by simp [hi]
    refine Br.pos (by omega) ⟨b.Cuts[i], Got.i (Br.i (fun c1 => Br.i (fun c2 => Lf.i (q0 _ ?_)) (fun c2 => Num.n (by omega) (ih (i + 1) (by omega) ?_))) (fun c1 => Num.n (by omega) (ih (i + 1) (by omega) ?_))) (by omega) g⟩
    · rw [if_pos ⟨c1, c2⟩] at p; exact p
    · rw [if_neg (fun k => c2 k.2)] at p; exact p
    · rw [if_neg (fun k => c1 k.1)] at p; exact p
theorem rof_l {left : Int} {b : api_Basket} {a : api_Asset} (hb : b.Cuts.length ≤ 1000000) {P : Int × Bool → Prop} {Q0 : Int → Prop} {Q1 : Unit → Prop} (q0 : ∀ v, P (v, true) → Q0 v) (q1 : P (0, false) → Q1 ()) : ∀ (n i : Nat), n + i = b.Cuts.length → P (if left < 0 then (0, false) else cutS left a.Rating (b.Cuts.drop i)) → lombardref15_Of_L0 left b a Q0 Q1 (i : Int) := by
  intro n
  induction n with
  | zero =>
    intro i hn p
    refine lombardref15_Of_l0 ?_
    unfold lombardref15_Of_w0
    rw [lenM_eq]
    rw [List.drop_of_length_le (by omega)] at p
    refine Br.neg (by omega) (Lf.i (q1 ?_))
    split at p <;> exact p
  | succ n ih =>
    intro i hn p
    have hi : i < b.Cuts.length := by omega
    refine lombardref15_Of_l0 ?_
    unfold lombardref15_Of_w0
    rw [lenM_eq]
    have g : b.Cuts[(i : Int).toNat]? = some b.Cuts[i] := by simp [hi]
    refine Br.pos (by omega) (Br.i (fun c0 => ?_) (fun c0 => Lf.i (q1 (by rw [if_pos (by omega)] at p; exact p))))
    have ng : ¬ left < 0 := by omega
    rw [if_neg ng, List.drop_eq_getElem_cons hi, cutS] at p
    refine ⟨b.Cuts[i], Got.i (Br.i (fun c1 => Got.i (Br.i (fun c2 => Got.i (Lf.i (q0 _ ?_)) (by omega) g) (fun c2 => Num.n (by omega) (ih (i + 1) (by omega) ?_))) (by omega) g) (fun c1 => Num.n (by omega) (ih (i + 1) (by omega) ?_))) (by omega) g⟩
    · rw [if_pos ⟨by omega, by omega⟩] at p; exact p
    · rw [if_neg (fun k => c2 (by omega))] at p; rw [if_neg ng]; exact p
    · rw [if_neg (fun k => c1 (by omega))] at p; rw [if_neg ng]; exact p
theorem Of_r {b : api_Basket} {a : api_Asset} {day : Int} (hb : b.Cuts.length ≤ 1000000) (h : 0 ≤ a.Maturity ∧ a.Maturity ≤ 200000) : haircut_Of_r b a day (ofS b a day) := by
  refine haircut_Of_of ?_
  unfold haircut_Of_w ofS
  refine ⟨_, Left_r h, Br.i (fun c => Rt.i (by rw [if_pos c])) (fun c => ?_)⟩
  rw [if_neg c]
  exact of_l hb (P := fun v => v = cutS (leftS a.Maturity day) a.Rating b.Cuts) (fun v p => Rt.i p) (fun p => Rt.i p) b.Cuts.length 0 (by omega) (by rw [List.drop_zero])
theorem ROf_r {b : api_Basket} {a : api_Asset} {day : Int} (hb : b.Cuts.length ≤ 1000000) (h : 0 ≤ a.Maturity ∧ a.Maturity ≤ 200000) : lombardref15_Of_r b a day (ofS b a day) := by
  refine lombardref15_Of_of ?_
  unfold lombardref15_Of_w ofS
  exact ⟨_, RLeft_r h, rof_l hb (P := fun v => v = if leftS a.Maturity day < 0 then (0, false) else cutS (leftS a.Maturity day) a.Rating b.Cuts) (fun v p => Rt.i p) (fun p => Rt.i p) b.Cuts.length 0 (by omega) (by rw [List.drop_zero])⟩
/-! What a lot's cover hangs on. -/
def zI : haircut_Item := ⟨⟨ByteArray.empty, 0⟩, ⟨ByteArray.empty, 0, 0, 0, ByteArray.empty⟩, 0, 0⟩
def itemS (r : List KN) (b : api_Basket) (x : api_Lot) (day : Int) : haircut_Item × Int := match lk x.ISIN r with
  | none => (zI, 21)
  | some y => if y.Price = 0 then (zI, 31) else if (ofS b y.A day).2 = false then (zI, 23) else if x.Qty < 0 then (zI, 1) else if x.Qty > 1125899906842624 then (zI, 1) else (⟨x, y.A, y.Price, (ofS b y.A day).1⟩, 0)
def Fine (r : List KN) : Prop := Ord r ∧ r.length ≤ 1000 ∧ ∀ y ∈ r, assetS y.A = 0
theorem lk_mem {r : List KN} {s : ByteArray} {y : KN} (h : lk s r = some y) : y ∈ r := by
  unfold lk at h
  split at h
  · exact List.mem_of_getElem? h
  · cases h
theorem Find_r {r : List KN} (h : Fine r) {b : api_Basket} (hb : b.Cuts.length ≤ 1000000) (x : api_Lot) (day : Int) : haircut_Find_r (bk r) b x day (itemS r b x day) := by
  obtain ⟨h1, h2, h3⟩ := h
  refine haircut_Find_of ?_
  unfold haircut_Find_w
  refine ⟨_, Get_r h1 (by omega) _, ?_⟩
  unfold itemS getS
  cases e : lk x.ISIN r with
  | none => exact Br.t rfl (Rt.i rfl)
  | some y =>
    have ok := asset_ok (h3 y (lk_mem e))
    refine Br.f rfl ⟨_, Price_r h1 (by omega) _, ?_⟩
    unfold priceS
    rw [e]
    show Br (!(if y.Price = 0 then ((0 : Int), false) else (y.Price, true)).2) _ _
    by_cases c : y.Price = 0
    · simp only [if_pos c]
      exact Br.t rfl (Rt.i rfl)
    · simp only [if_neg c]
      refine Br.f rfl ⟨_, Of_r hb ⟨by omega, by omega⟩, ?_⟩
      show Br (!(ofS b y.A day).2) _ _
      cases c2 : (ofS b y.A day).2 with
      | false => exact Br.t rfl (Rt.i (by simp; rfl))
      | true =>
        refine Br.f rfl (Br.i (fun c3 => Rt.i (by simp [c3]; rfl)) (fun c3 => Br.i (fun c4 => Rt.i (by simp [c3, c4]; rfl)) (fun c4 => Rt.i (by simp [c3, c4]))))
theorem RFind_r {r : List KN} (h : Fine r) {b : api_Basket} (hb : b.Cuts.length ≤ 1000000) (x : api_Lot) (day : Int) : lombardref15_Find_r r b x day (toR (itemS r b x day).1, (itemS r b x day).2) := by
  obtain ⟨h1, h2, h3⟩ := h
  refine lombardref15_Find_of ?_
  unfold lombardref15_Find_w
  refine ⟨_, find_i h1 (by omega) _, ?_⟩
  unfold itemS
  rcases lk_cases h1 x.ISIN with ⟨k, e⟩ | ⟨y, k, e, g, _⟩
  · rw [e, k, if_neg (by decide)]
    exact Br.pos (by omega) (Rt.i rfl)
  · have ok := asset_ok (h3 y (lk_mem e))
    rw [e, k, if_pos rfl]
    have g2 : r[((idx x.ISIN r : Nat) : Int).toNat]? = some y := by rw [Int.toNat_natCast]; exact g
    refine Br.neg (by omega) ⟨y, Got.i (Br.i (fun c => Rt.i (by simp only [if_pos c]; rfl)) (fun c => ?_)) (by omega) g2⟩
    simp only [if_neg c]
    refine Got.i ⟨_, ROf_r hb ⟨by omega, by omega⟩, ?_⟩ (by omega) g2
    show Br (!(ofS b y.A day).2) _ _
    cases c2 : (ofS b y.A day).2 with
    | false => exact Br.t rfl (Rt.i (by simp; rfl))
    | true =>
      refine Br.f rfl (Br.i (fun c3 => Rt.i (by simp [c3]; rfl)) (fun c3 => Br.i (fun c4 => Rt.i (by simp [c3, c4]; rfl)) (fun c4 => Got.i (Got.i (Rt.i (by simp [c3, c4]; rfl)) (by omega) g2) (by omega) g2)))
end Go.Proofs.Ytdljcgikknaffaa.Pure
namespace Go.Proofs.Ytdljcgikknaffaa.Pure
open Go Go.Ab Go.Stable Go.Proofs.Ytdljcgikknaffaa.R
set_option linter.unusedVariables false
theorem Less_int_r (a b : Int) : cmp_Less_int_r a b (decide (a < b)) := by
  refine cmp_Less_int_of ?_
  unfold cmp_Less_int_w
  exact ⟨_, isNaN_int_r a, Br.f rfl (Rt.i rfl)⟩
theorem bsI_l {A B : List Int} {s : Int} (hA : ∀ y ∈ A, y < s) (hB : ∀ y ∈ B, ¬ y < s) (hl : (A ++ B).length ≤ 1000000) {Q : Int → Prop} (q : Q (A.length : Nat)) :
    ∀ (n i j : Nat), j - i ≤ n → i ≤ A.length → A.length ≤ j → j ≤ (A ++ B).length → slices_BinarySearch_int_int_L0 (A ++ B) s Q i j := by
  intro n
  induction n with
  | zero =>
    intro i j hn hi hj hjl
    have e : i = A.length := by omega
    refine slices_BinarySearch_int_int_l0 ?_
    unfold slices_BinarySearch_int_int_w0
    exact Br.neg (by omega) (Lf.i (by rw [e]; exact q))
  | succ n ih =>
    intro i j hn hi hj hjl
    refine slices_BinarySearch_int_int_l0 ?_
    unfold slices_BinarySearch_int_int_w0
    by_cases c : i < j
    · rw [half (i := i) (j := j) (by omega), show (((i + j) / 2 : Nat) : Int) + 1 = (((i + j) / 2 + 1 : Nat) : Int) by omega]
      have hk : (i + j) / 2 < (A ++ B).length := by omega
      refine Br.pos (by omega) (Num.n (by omega) ⟨(A ++ B)[(i + j) / 2], Got.i ⟨_, Less_int_r _ _, Br.i (fun c1 => Num.n (by omega) ?_) (fun c1 => ?_)⟩ (by omega) (show (A ++ B)[(i + j) / 2]? = _ from List.getElem?_eq_getElem hk)⟩)
      · have : (i + j) / 2 < A.length := Nat.lt_of_not_le fun h => by
          refine hB _ ?_ c1
          rw [List.getElem_append_right h]; exact List.getElem_mem _
        exact ih _ _ (by omega) (by omega) hj hjl
      · have : A.length ≤ (i + j) / 2 := Nat.le_of_not_lt fun h => by
          refine c1 (hA _ ?_)
          rw [List.getElem_append_left h]; exact List.getElem_mem _
        exact ih _ _ (by omega) hi this (by omega)
    · have e : i = A.length := by omega
      exact Br.neg (by omega) (Lf.i (by rw [e]; exact q))
theorem splitI (s : Int) : ∀ (l : List Int), l.Pairwise (· < ·) → ∃ A B, l = A ++ B ∧ (∀ y ∈ A, y < s) ∧ (∀ y ∈ B, ¬ y < s) ∧ ∀ y ∈ B.drop 1, s < y
  | [], _ => ⟨[], [], rfl, by simp, by simp, by simp⟩
  | y :: l, h => by
    obtain ⟨h1, h2⟩ := List.pairwise_cons.1 h
    by_cases c : y < s
    · obtain ⟨A, B, e, hA, hB, hC⟩ := splitI s l h2
      refine ⟨y :: A, B, by rw [e]; rfl, fun z hz => ?_, hB, hC⟩
      rcases List.mem_cons.1 hz with rfl | hz
      · exact c
      · exact hA z hz
    · refine ⟨[], y :: l, rfl, by simp, fun z hz => ?_, fun z hz => ?_⟩
      · rcases List.mem_cons.1 hz with rfl | hz
        · exact c
        · have := h1 z hz; omega
      · have := h1 z (by simpa using hz); omega
theorem bsI_r {l : List Int} (h : l.Pairwise (· < ·)) (hl : l.length ≤ 1000000) (s : Int) : ∃ k, slices_BinarySearch_int_int_r l s (k, decide (s ∈ l)) := by
  obtain ⟨A, B, rfl, hA, hB, hC⟩ := splitI s l h
  refine ⟨(A.length : Nat), slices_BinarySearch_int_int_of ?_⟩
  unfold slices_BinarySearch_int_int_w
  rw [lenM_eq]
  refine bsI_l hA hB hl ?_ (A ++ B).length 0 (A ++ B).length (by omega) (by omega) (by simp) (Nat.le_refl _)
  have nA : s ∉ A := fun k => by have := hA s k; omega
  cases B with
  | nil =>
    refine Br.neg (by simp) (Rt.i ?_)
    rw [decide_eq_false (by simpa using nA)]
  | cons y B =>
    have g : (A ++ y :: B)[((A.length : Nat) : Int).toNat]? = some y := by rw [Int.toNat_natCast, List.getElem?_append_right (Nat.le_refl _)]; simp
    refine Br.pos (by simp; omega) ⟨y, Got.i (Br.i (fun c => Rt.i ?_) (fun c => Got.i ⟨_, slices_isNaN_int_of (v := false) (by unfold slices_isNaN_int_w; exact Rt.i (by simp)), Br.f rfl (Rt.i ?_)⟩ (by omega) g)) (by omega) g⟩
    · rw [decide_eq_true (by simp [c])]
    · rw [decide_eq_false]
      intro k
      rcases List.mem_append.1 k with k | k
      · exact nA k
      · rcases List.mem_cons.1 k with k | k
        · exact c k.symm
        · have := hC s (by simpa using k); omega
/-! What a basket says of a security. -/
def whyS (b : api_Basket) (a : api_Asset) (day : Int) : Int :=
  if a.Currency ≠ b.Currency then 1 else if a.Rating > b.Rating then 2 else if leftS a.Maturity day < 1 then 3 else if leftS a.Maturity day < b.Least then 3 else if leftS a.Maturity day > b.Most then 4 else if a.Issuer ∈ b.Barred then 5 else 0
structure Rules (b : api_Basket) : Prop where
  cuts : b.Cuts.length ≤ 64
  bl : b.Barred.length ≤ 64
  bar : b.Barred.Pairwise (· < ·)
theorem Why_r {b : api_Basket} (hb : Rules b) {a : api_Asset} {day : Int} (h : 0 ≤ a.Maturity ∧ a.Maturity ≤ 200000) : basket_Why_r b a day (whyS b a day) := by
  refine basket_Why_of ?_
  unfold basket_Why_w whyS
  obtain ⟨k, hk⟩ := bsI_r hb.bar (by have := hb.bl; omega) a.Issuer
  refine ⟨_, Left_r h, _, hk, Br.i (fun c => Rt.i (by rw [if_pos c])) (fun c => ?_)⟩
  rw [if_neg c]
  refine Br.i (fun c => Rt.i (by rw [if_pos c])) (fun c => ?_)
  rw [if_neg c]
  refine Br.i (fun c => Rt.i (by rw [if_pos c])) (fun c => ?_)
  rw [if_neg c]
  refine Br.i (fun c => Rt.i (by rw [if_pos c])) (fun c => ?_)
  rw [if_neg c]
  refine Br.i (fun c => Rt.i (by rw [if_pos c])) (fun c => ?_)
  rw [if_neg c]
  exact Br.i (fun c => Rt.i (by rw [if_pos c])) (fun c => Rt.i (by rw [if_neg c]))
theorem has_l {l : List Int} {s : Int} (hl : l.length ≤ 1000000) {Q0 Q1 : Unit → Prop} : ∀ (n i : Nat), n + i = l.length → (s ∈ l.drop i → Q0 ()) → (s ∉ l.drop i → Q1 ()) → lombardref14_has_L0 l s Q0 Q1 (i : Int) := by
  intro n
  induction n with
  | zero =>
    intro i h q0 q1
    refine lombardref14_has_l0 ?_
    unfold lombardref14_has_w0
    rw [lenM_eq]
    rw [List.drop_of_length_le (by omega)] at q1
    exact Br.neg (by omega) (Lf.i (q1 (by simp)))
  | succ n ih =>
    intro i h q0 q1
    have hi : i < l.length := by omega
    refine lombardref14_has_l0 ?_
    unfold lombardref14_has_w0
    rw [lenM_eq]
    rw [List.drop_eq_getElem_cons hi] at q0 q1
    have g : l[(i : Int).toNat]? = some l[i] := by simp [hi]
    refine Br.pos (by omega) ⟨l[i], Got.i (Br.i (fun c => Lf.i (q0 (by rw [c]; exact List.mem_cons_self))) (fun c => Num.n (by omega) (ih (i + 1) (by omega) (fun k => q0 (List.mem_cons_of_mem _ k)) (fun k => q1 (fun k2 => ?_))))) (by omega) g⟩
    rcases List.mem_cons.1 k2 with k2 | k2
    · exact c k2.symm
    · exact k k2
theorem has_r {l : List Int} (hl : l.length ≤ 1000000) (s : Int) : lombardref14_has_r l s (decide (s ∈ l)) := by
  refine lombardref14_has_of ?_
  unfold lombardref14_has_w
  refine has_l hl l.length 0 (by omega) (fun k => Rt.i ?_) (fun k => Rt.i ?_)
  · rw [List.drop_zero] at k; exact (decide_eq_true k).symm
  · rw [List.drop_zero] at k; exact (decide_eq_false k).symm
theorem RWhy_r {b : api_Basket} (hb : Rules b) {a : api_Asset} {day : Int} (h : 0 ≤ a.Maturity ∧ a.Maturity ≤ 200000) : lombardref14_Why_r b a day (whyS b a day) := by
  refine lombardref14_Why_of ?_
  unfold lombardref14_Why_w whyS
  refine Br.i (fun c => Rt.i (by rw [if_pos c])) (fun c => ?_)
  rw [if_neg c]
  refine Br.i (fun c => Rt.i (by rw [if_pos c])) (fun c => ?_)
  rw [if_neg c]
  refine ⟨_, RLeft_r h, ?_⟩
  refine Br.i (fun c => Rt.i (by rw [if_pos c])) (fun c => ?_)
  rw [if_neg c]
  refine Br.i (fun c => Rt.i (by rw [if_pos c])) (fun c => ?_)
  rw [if_neg c]
  refine Br.i (fun c => Rt.i (by rw [if_pos c])) (fun c => ?_)
  rw [if_neg c]
  refine ⟨_, has_r (by have := hb.bl; omega) a.Issuer, ?_⟩
  exact Br.i (fun c => Rt.i (by rw [if_pos c])) (fun c => Rt.i (by rw [if_neg c]))
theorem Fits_r {b : api_Basket} (hb : Rules b) {a : api_Asset} {day : Int} (h : 0 ≤ a.Maturity ∧ a.Maturity ≤ 200000) : basket_Fits_r b a day (whyS b a day == 0) := by
  refine basket_Fits_of ?_
  unfold basket_Fits_w
  exact ⟨_, Why_r hb h, Rt.i rfl⟩
/-! Which lots. -/
section
variable (r : List KN) (b : api_Basket) (day : Int)
def takeS (x : api_Lot) : Bool := decide ((itemS r b x day).2 = 0) && (whyS b (itemS r b x day).1.Asset day == 0)
def inL (l : List api_Lot) : List haircut_Item := (l.filter (takeS r b day)).map (fun x => (itemS r b x day).1)
def outL (l : List api_Lot) : List api_Lot := l.filter (fun x => !takeS r b day x)
end
theorem app24b {n : Nat} (h : n ≤ 3000000) : App 24 n := ⟨by unfold maxLen; omega, by omega⟩
section
variable {r : List KN} {b : api_Basket} {day : Int}
theorem item_ok (h : Fine r) {x : api_Lot} (e : (itemS r b x day).2 = 0) : 0 ≤ (itemS r b x day).1.Asset.Maturity ∧ (itemS r b x day).1.Asset.Maturity ≤ 200000 := by
  unfold itemS at e ⊢
  cases k : lk x.ISIN r with
  | none => rw [k] at e; cases e
  | some y =>
    rw [k] at e
    have ok := asset_ok (h.2.2 y (lk_mem k))
    show 0 ≤ (if y.Price = 0 then (zI, (31 : Int)) else _).1.Asset.Maturity ∧ (if y.Price = 0 then (zI, (31 : Int)) else _).1.Asset.Maturity ≤ 200000
    split
    · decide
    · split
      · decide
      · split
        · decide
        · split
          · decide
          · exact ⟨ok.2.2.2.2.1, ok.2.2.2.2.2⟩
theorem elig_l (h : Fine r) (hb : Rules b) {l : List api_Lot} (hl : l.length ≤ 1000) {Q : (List api_Lot) × (List haircut_Item) → Prop} : ∀ (n i : Nat) (o : List api_Lot) (a : List haircut_Item), n + i = l.length → o.length ≤ i → a.length ≤ i → Q (o ++ outL r b day (l.drop i), a ++ inL r b day (l.drop i)) → lots_Eligible_L0 day l b (bk r) Q (i : Int) o a := by
  intro n
  induction n with
  | zero =>
    intro i o a hn ho ha q
    refine lots_Eligible_l0 ?_
    unfold lots_Eligible_w0
    rw [lenM_eq]
    rw [List.drop_of_length_le (by omega)] at q
    exact Br.neg (by omega) (Lf.i (by simpa [outL, inL] using q))
  | succ n ih =>
    intro i o a hn ho ha q
    have hi : i < l.length := by omega
    refine lots_Eligible_l0 ?_
    unfold lots_Eligible_w0
    rw [lenM_eq]
    rw [List.drop_eq_getElem_cons hi] at q
    have g : l[(i : Int).toNat]? = some l[i] := by simp [hi]
    have no : takeS r b day l[i] = false → Q (o ++ [l[i]] ++ outL r b day (l.drop (i + 1)), a ++ inL r b day (l.drop (i + 1))) := fun k => by
      unfold outL inL at q ⊢
      rw [List.filter_cons, k, List.filter_cons, k] at q
      simpa using q
    have yes : takeS r b day l[i] = true → Q (o ++ outL r b day (l.drop (i + 1)), a ++ [(itemS r b l[i] day).1] ++ inL r b day (l.drop (i + 1))) := fun k => by
      unfold outL inL at q ⊢
      rw [List.filter_cons, k, List.filter_cons, k] at q
      simpa using q
    refine Br.pos (by omega) ⟨l[i], Got.i ⟨_, Find_r h (by have := hb.cuts; omega) _ _, ?_⟩ (by omega) g⟩
    refine Br.i (fun c => App2.i (app24b (by simp; omega)) (Num.n (by omega) (ih (i + 1) _ _ (by omega) (by simp; omega) (by omega) (no ?_)))) (fun c => ?_)
    · unfold takeS; rw [decide_eq_false c]; rfl
    · have c := Decidable.not_not.1 c
      refine ⟨_, Fits_r hb (item_ok h c), ?_⟩
      refine Br.i (fun c2 => App2.i (app24b (by simp; omega)) (Num.n (by omega) (ih (i + 1) _ _ (by omega) (by simp; omega) (by omega) (no ?_)))) (fun c2 => App2.i (app96 (by simp; omega)) (Num.n (by omega) (ih (i + 1) _ _ (by omega) (by omega) (by simp; omega) (yes ?_))))
      · unfold takeS; rw [decide_eq_true c, Bool.true_and]; exact beq_eq_false_iff_ne.2 c2
      · unfold takeS; rw [decide_eq_true c, Bool.true_and]; exact beq_iff_eq.2 (Decidable.not_not.1 c2)
theorem relig_l (h : Fine r) (hb : Rules b) {l : List api_Lot} (hl : l.length ≤ 1000) {Q : (List lombardref15_Item) × (List api_Lot) → Prop} : ∀ (n i : Nat) (o : List api_Lot) (a : List lombardref15_Item), n + i = l.length → o.length ≤ i → a.length ≤ i → Q (a ++ (inL r b day (l.drop i)).map toR, o ++ outL r b day (l.drop i)) → lombardref17_Eligible_L0 r l day b Q (i : Int) a o := by
  intro n
  induction n with
  | zero =>
    intro i o a hn ho ha q
    refine lombardref17_Eligible_l0 ?_
    unfold lombardref17_Eligible_w0
    rw [lenM_eq]
    rw [List.drop_of_length_le (by omega)] at q
    exact Br.neg (by omega) (Lf.i (by simpa [outL, inL] using q))
  | succ n ih =>
    intro i o a hn ho ha q
    have hi : i < l.length := by omega
    refine lombardref17_Eligible_l0 ?_
    unfold lombardref17_Eligible_w0
    rw [lenM_eq]
    rw [List.drop_eq_getElem_cons hi] at q
    have g : l[(i : Int).toNat]? = some l[i] := by simp [hi]
    have no : takeS r b day l[i] = false → Q (a ++ (inL r b day (l.drop (i + 1))).map toR, o ++ [l[i]] ++ outL r b day (l.drop (i + 1))) := fun k => by
      unfold outL inL at q ⊢
      rw [List.filter_cons, k, List.filter_cons, k] at q
      simpa using q
    have yes : takeS r b day l[i] = true → Q (a ++ [toR (itemS r b l[i] day).1] ++ (inL r b day (l.drop (i + 1))).map toR, o ++ outL r b day (l.drop (i + 1))) := fun k => by
      unfold outL inL at q ⊢
      rw [List.filter_cons, k, List.filter_cons, k] at q
      simpa using q
    refine Br.pos (by omega) ⟨l[i], Got.i ⟨_, RFind_r h (by have := hb.cuts; omega) _ _, ?_⟩ (by omega) g⟩
    refine Br.i (fun c => ?_) (fun c => Got.i (App2.i (app24b (by simp; omega)) (Num.n (by omega) (ih (i + 1) _ _ (by omega) (by simp; omega) (by omega) (no ?_)))) (by omega) g)
    · refine ⟨_, RWhy_r hb (item_ok h c), ?_⟩
      refine Br.i (fun c2 => App2.i (app96 (by simp; omega)) (Num.n (by omega) (ih (i + 1) _ _ (by omega) (by omega) (by simp; omega) (yes ?_)))) (fun c2 => Got.i (App2.i (app24b (by simp; omega)) (Num.n (by omega) (ih (i + 1) _ _ (by omega) (by simp; omega) (by omega) (no ?_)))) (by omega) g)
      · unfold takeS; rw [decide_eq_true c, Bool.true_and]; exact beq_iff_eq.2 c2
      · unfold takeS; rw [decide_eq_true c, Bool.true_and]; exact beq_eq_false_iff_ne.2 c2
    · unfold takeS; rw [decide_eq_false c]; rfl
theorem in_out (l : List api_Lot) : (inL r b day l).length + (outL r b day l).length = l.length := by
  unfold inL outL
  rw [List.length_map]
  induction l with
  | nil => rfl
  | cons x l ih =>
    rw [List.filter_cons, List.filter_cons, List.length_cons]
    cases takeS r b day x <;> simp <;> omega
theorem Eligible_r (h : Fine r) (hb : Rules b) {l : List api_Lot} (hl : l.length ≤ 1000) : lots_Eligible_r (bk r) b l day (isort leE (inL r b day l), outL r b day l) := by
  refine lots_Eligible_of ?_
  unfold lots_Eligible_w
  have := in_out (r := r) (b := b) (day := day) l
  refine elig_l h hb hl l.length 0 [] [] (by omega) (by simp) (by simp) ?_
  rw [List.drop_zero, List.nil_append, List.nil_append]
  exact ⟨_, Rank_r (by show (inL r b day l).length ≤ _; omega), Rt.i rfl⟩
theorem REligible_r (h : Fine r) (hb : Rules b) {l : List api_Lot} (hl : l.length ≤ 1000) : lombardref17_Eligible_r r b l day ((isort leE (inL r b day l)).map toR, outL r b day l) := by
  refine lombardref17_Eligible_of ?_
  unfold lombardref17_Eligible_w
  have := in_out (r := r) (b := b) (day := day) l
  refine relig_l h hb hl l.length 0 [] [] (by omega) (by simp) (by simp) ?_
  rw [List.drop_zero, List.nil_append, List.nil_append]
  have e := RRank_r (l := (inL r b day l).map toR) (by rw [List.length_map]; omega)
  rw [toH_toR] at e
  exact ⟨_, e, Rt.i rfl⟩
end
/-! The same. -/
theorem same_l {a : List haircut_Item} (hl : a.length ≤ 1000000) {Q0 Q1 : Unit → Prop} (q : Q1 ()) : ∀ (n i : Nat), n + i = a.length → lombardlaw17_same_L0 a (a.map toR) Q0 Q1 (i : Int) := by
  intro n
  induction n with
  | zero =>
    intro i h
    refine lombardlaw17_same_l0 ?_
    unfold lombardlaw17_same_w0
    rw [lenM_eq]
    exact Br.neg (by omega) (Lf.i q)
  | succ n ih =>
    intro i h
    have hi : i < a.length := by omega
    refine lombardlaw17_same_l0 ?_
    unfold lombardlaw17_same_w0
    rw [lenM_eq]
    have g : a[(i : Int).toNat]? = some a[i] := by simp [hi]
    have g2 : (a.map toR)[(i : Int).toNat]? = some (toR a[i]) := by simp [hi]
    have e : ∀ s : ByteArray, strEq s s = true := fun s => strEq_true rfl
    refine Br.pos (by omega) ⟨a[i], Got.i ⟨toR a[i], Got.i ?_ (by omega) g2⟩ (by omega) g⟩
    refine Br.f (by simp [toR, e]) (Got.i (Got.i (Br.f (by simp [toR, e]) (Got.i (Got.i (Br.f (by simp [toR]) (Got.i (Got.i (Br.f (by simp [toR]) (Num.n (by omega) (ih (i + 1) (by omega)))) (by omega) g2) (by omega) g)) (by omega) g2) (by omega) g)) (by omega) g2) (by omega) g)
theorem same_r {a : List haircut_Item} (hl : a.length ≤ 1000000) : lombardlaw17_same_r a (a.map toR) true := by
  refine lombardlaw17_same_of ?_
  unfold lombardlaw17_same_w
  rw [lenM_eq, lenM_eq, List.length_map]
  exact Br.f (by simp) (same_l hl (Rt.i rfl) a.length 0 (by omega))
theorem lots_l {a : List api_Lot} (hl : a.length ≤ 1000000) {Q0 Q1 : Unit → Prop} (q : Q1 ()) : ∀ (n i : Nat), n + i = a.length → lombardref10_Lots_L0 a a Q0 Q1 (i : Int) := by
  intro n
  induction n with
  | zero =>
    intro i h
    refine lombardref10_Lots_l0 ?_
    unfold lombardref10_Lots_w0
    rw [lenM_eq]
    exact Br.neg (by omega) (Lf.i q)
  | succ n ih =>
    intro i h
    have hi : i < a.length := by omega
    refine lombardref10_Lots_l0 ?_
    unfold lombardref10_Lots_w0
    rw [lenM_eq]
    have g : a[(i : Int).toNat]? = some a[i] := by simp [hi]
    have e : ∀ s : ByteArray, strEq s s = true := fun s => strEq_true rfl
    refine Br.pos (by omega) ⟨a[i], Got.i ⟨a[i], Got.i (Br.f (by simp [e]) (Num.n (by omega) (ih (i + 1) (by omega)))) (by omega) g⟩ (by omega) g⟩
theorem Lots_r {a : List api_Lot} (hl : a.length ≤ 1000000) : lombardref10_Lots_r a a true := by
  refine lombardref10_Lots_of ?_
  unfold lombardref10_Lots_w
  rw [lenM_eq]
  exact Br.f (by simp) (lots_l hl (Rt.i rfl) a.length 0 (by omega))
end Go.Proofs.Ytdljcgikknaffaa.Pure
namespace Go.Proofs.Ytdljcgikknaffaa.Pure
open Go Go.Ab Go.Stable Go.Proofs.Ytdljcgikknaffaa.R
set_option linter.unusedVariables false
abbrev lA (n : Int) : api_Lot := ⟨⟨#[65]⟩, n⟩
abbrev lB (n : Int) : api_Lot := ⟨⟨#[66]⟩, n⟩
abbrev lC (n : Int) : api_Lot := ⟨⟨#[67]⟩, n⟩
theorem add1 : lots_add_r [lA 5, lB 2] (lA 1) ([lA 6, lB 2], 0) := by
  refine lots_add_of ?_
  unfold lots_add_w
  have hp := place_r (A := []) (B := [lA 5, lB 2]) (s := ⟨#[65]⟩) (by simp) (by decide) (by decide)
  exact ⟨_, hp, Br.f (by decide) (InL.i ⟨lA 5, EltG.i (Num.n (by decide) (Br.neg (by decide) (InL.i (EltG.i (Num.n (by decide) (InL.i (EltS.i (Rt.i rfl) rfl) (by decide) (by decide))) rfl) (by decide) (by decide)))) rfl⟩ (by decide) (by decide))⟩
theorem add2 : lots_add_r [lA 6, lB 2] (lC 4) ([lA 6, lB 2, lC 4], 0) := by
  refine lots_add_of ?_
  unfold lots_add_w
  have hp := place_r (A := [lA 6, lB 2]) (B := []) (s := ⟨#[67]⟩) (by decide) (by simp) (by decide)
  exact ⟨_, hp, Br.t rfl (Br.neg (by decide) ⟨_, Insert_r (a := [lA 6, lB 2]) (x := lC 4) (n := 2) (by decide) (by decide), Rt.i rfl⟩)⟩
theorem plus1 : lots_Plus_r [lA 5, lB 2] [lA 1, lC 4] ([lA 6, lB 2, lC 4], 0) := by
  refine lots_Plus_of ?_
  unfold lots_Plus_w
  refine ⟨_, Clone32_r (by decide), lots_Plus_l0 (Br.pos (by decide) ⟨lA 1, Got.i ⟨_, add1, Br.f rfl (Num.n (by decide) (lots_Plus_l0 (Br.pos (by decide) ⟨lC 4, Got.i ⟨_, add2, Br.f rfl (Num.n (by decide) (lots_Plus_l0 (Br.neg (by decide) (Lf.i (Rt.i rfl)))))⟩ (by decide) rfl⟩)))⟩ (by decide) rfl⟩)⟩
theorem minus1 : lots_Minus_r [lA 6, lB 2, lC 4] [lB 2] ([lA 6, lC 4], 0) := by
  refine lots_Minus_of ?_
  unfold lots_Minus_w
  have hp := place_r (A := [lA 6]) (B := [lB 2, lC 4]) (s := ⟨#[66]⟩) (by decide) (by decide) (by decide)
  have hd : DelR Try.prog 35 2 api_Lot.enc [lA 6, lB 0, lC 4] 1 (1 + 1) [lA 6, lC 4] := Con_delete (rows := [lA 6, lB 0, lC 4].map api_Lot.enc) (i := 1) (by decide) (enters_of Try.func35 (by kernel_rfl) rfl)
  refine ⟨_, Clone32_r (by decide), lots_Minus_l0 (Br.pos (by decide) ⟨lB 2, Got.i ⟨_, hp, Br.f (by decide) (InL.i ⟨lB 2, EltG.i (Br.neg (by decide) (InL.i (EltG.i (Num.n (by decide) (InL.i (EltS.i (InL.i ⟨lB 0, EltG.i (Br.pos (by decide) (Num.n (by decide) ⟨_, hd, Num.n (by decide) (lots_Minus_l0 (Br.neg (by decide) (Lf.i (Rt.i rfl))))⟩)) rfl⟩ (by decide) (by decide)) rfl) (by decide) (by decide))) rfl) (by decide) (by decide))) rfl⟩ (by decide) (by decide))⟩ (by decide) rfl⟩)⟩
theorem awake_r : lombardlaw17_awake_r true := by
  refine lombardlaw17_awake_of ?_
  unfold lombardlaw17_awake_w
  exact ⟨_, plus1, _, minus1, Br.t rfl (Br.t rfl ⟨_, Lots_r (by decide), Br.t rfl ⟨_, Lots_r (by decide), Rt.i rfl⟩⟩)⟩
/-! What is wrong with a basket. -/
def inS (n l m : Int) : Bool := decide (l ≤ n ∧ n ≤ m)
theorem in_r (n l m : Int) : lombardref10_in_r n l m (inS n l m) := by
  refine lombardref10_in_of ?_
  unfold lombardref10_in_w inS
  refine Br.i (fun c => Rt.i (decide_eq_decide.2 ⟨fun k => ⟨by omega, k⟩, fun k => k.2⟩)) (fun c => Rt.i (decide_eq_false (fun k => c (by omega))).symm)
theorem amount_r (n : Int) : lombardref10_Amount_r n (inS n 1 1125899906842624) := by
  refine lombardref10_Amount_of ?_
  unfold lombardref10_Amount_w inS
  refine Br.i (fun c => Rt.i (decide_eq_decide.2 ⟨fun k => ⟨by omega, k⟩, fun k => k.2⟩)) (fun c => Rt.i (decide_eq_false (fun k => c (by omega))).symm)
def cutsS : List api_Cut → Bool
  | [] => true
  | c :: l => if inS c.Days 0 200000 = false then false else if inS c.Rating 0 20 = false then false else if inS c.Cut 0 999999 = false then false else cutsS l
def barS : Option Int → List Int → Bool
  | _, [] => true
  | p, x :: l => if inS x 0 9999 = false then false else match p with
    | none => barS (some x) l
    | some y => if x ≤ y then false else barS (some x) l
theorem barS_cons (p : Option Int) (x : Int) (l : List Int) : barS p (x :: l) = if inS x 0 9999 = false then false else match p with
    | none => barS (some x) l
    | some y => if x ≤ y then false else barS (some x) l := by
  cases p <;> rfl
def basketS (b : api_Basket) : Int := if inS b.ID 1 64 = false then 1 else if inS b.Version 1 1125899906842624 = false then 1 else if inS b.Rating 0 20 = false then 1 else if inS b.Issuer 0 1000000 = false then 1 else if inS b.Asset 0 1000000 = false then 1 else if inS (b.Cuts.length : Nat) 1 64 = false then 1 else if ((b.Barred.length : Nat) : Int) > 64 then 1 else if b.Least < 0 then 10 else if inS b.Most b.Least 200000 = false then 10 else if curS b.Currency = false then 11 else if cutsS b.Cuts = false then 1 else if barS none b.Barred = false then 1 else 0
theorem cuts_l {b : api_Basket} (hl : b.Cuts.length ≤ 1000000) {Q0 Q1 : Unit → Prop} : ∀ (n i : Nat), n + i = b.Cuts.length → (cutsS (b.Cuts.drop i) = false → Q0 ()) → (cutsS (b.Cuts.drop i) = true → Q1 ()) → lombardref10_Basket_L0 b Q0 Q1 (i : Int) := by
  intro n
  induction n with
  | zero =>
    intro i h q0 q1
    refine lombardref10_Basket_l0 ?_
    unfold lombardref10_Basket_w0
    rw [lenM_eq]
    rw [List.drop_of_length_le (by omega)] at q1
    exact Br.neg (by omega) (Lf.i (q1 rfl))
  | succ n ih =>
    intro i h q0 q1
    have hi : i < b.Cuts.length := by omega
    refine lombardref10_Basket_l0 ?_
    unfold lombardref10_Basket_w0
    rw [lenM_eq]
    rw [List.drop_eq_getElem_cons hi, cutsS] at q0 q1
    have g : b.Cuts[(i : Int).toNat]? = some b.Cuts[i] := by simp [hi]
    refine Br.pos (by omega) ⟨b.Cuts[i], Got.i ⟨_, in_r _ _ _, Br.b (fun c => Lf.i (q0 ?_)) (fun c => Got.i ⟨_, in_r _ _ _, Br.b (fun c2 => Lf.i (q0 ?_)) (fun c2 => Got.i ⟨_, in_r _ _ _, Br.b (fun c3 => Lf.i (q0 ?_)) (fun c3 => Num.n (by omega) (ih (i + 1) (by omega) (fun k => q0 ?_) (fun k => q1 ?_)))⟩ (by omega) g)⟩ (by omega) g)⟩ (by omega) g⟩
    · rw [if_pos (by simpa using c)]
    · rw [if_neg (by simpa using c), if_pos (by simpa using c2)]
    · rw [if_neg (by simpa using c), if_neg (by simpa using c2), if_pos (by simpa using c3)]
    · rw [if_neg (by simpa using c), if_neg (by simpa using c2), if_neg (by simpa using c3)]; exact k
    · rw [if_neg (by simpa using c), if_neg (by simpa using c2), if_neg (by simpa using c3)]; exact k
theorem bar_l {b : api_Basket} (hl : b.Barred.length ≤ 1000000) {Q0 Q1 : Unit → Prop} : ∀ (n i : Nat) (p : Option Int), n + i = b.Barred.length → (i = 0 ∧ p = none ∨ 0 < i ∧ ∃ y, p = some y ∧ b.Barred[i - 1]? = some y) → (barS p (b.Barred.drop i) = false → Q0 ()) → (barS p (b.Barred.drop i) = true → Q1 ()) → lombardref10_Basket_L1 b Q0 Q1 (i : Int) := by
  intro n
  induction n with
  | zero =>
    intro i p h hp q0 q1
    refine lombardref10_Basket_l1 ?_
    unfold lombardref10_Basket_w1
    rw [lenM_eq]
    rw [List.drop_of_length_le (by omega)] at q1
    exact Br.neg (by omega) (Lf.i (q1 (by unfold barS; rfl)))
  | succ n ih =>
    intro i p h hp q0 q1
    have hi : i < b.Barred.length := by omega
    refine lombardref10_Basket_l1 ?_
    unfold lombardref10_Basket_w1
    rw [lenM_eq]
    rw [List.drop_eq_getElem_cons hi, barS_cons] at q0 q1
    have g : b.Barred[(i : Int).toNat]? = some b.Barred[i] := by simp [hi]
    have next : (barS (some b.Barred[i]) (b.Barred.drop (i + 1)) = false → Q0 ()) → (barS (some b.Barred[i]) (b.Barred.drop (i + 1)) = true → Q1 ()) → lombardref10_Basket_L1 b Q0 Q1 ((i + 1 : Nat) : Int) := fun k0 k1 => ih (i + 1) (some b.Barred[i]) (by omega) (.inr ⟨by omega, _, rfl, by rw [Nat.add_sub_cancel]; exact List.getElem?_eq_getElem hi⟩) k0 k1
    refine Br.pos (by omega) ⟨b.Barred[i], Got.i ⟨_, in_r _ _ _, Br.b (fun c => Lf.i (q0 ?_)) (fun c => ?_)⟩ (by omega) g⟩
    · rw [if_pos (by simpa using c)]
    · rw [if_neg (by simpa using c)] at q0 q1
      rcases hp with ⟨rfl, rfl⟩ | ⟨h0, y, rfl, hy⟩
      · exact Br.neg (by omega) (Num.n (by omega) (next q0 q1))
      · have g2 : b.Barred[((i : Int) - 1).toNat]? = some y := by rw [show ((i : Int) - 1).toNat = i - 1 by omega]; exact hy
        refine Br.pos (by omega) (Got.i (Num.n (by omega) ⟨y, Got.i (Br.i (fun c2 => Lf.i (q0 ?_)) (fun c2 => Num.n (by omega) (next (fun k => q0 ?_) (fun k => q1 ?_)))) (by omega) g2⟩) (by omega) g)
        · show (if b.Barred[i] ≤ y then false else _) = false
          rw [if_pos c2]
        · show (if b.Barred[i] ≤ y then false else _) = false
          rw [if_neg c2]; exact k
        · show (if b.Barred[i] ≤ y then false else _) = true
          rw [if_neg c2]; exact k
theorem Basket_r {b : api_Basket} (h1 : b.Cuts.length ≤ 100000000000000000) : lombardref10_Basket_r b (basketS b) := by
  refine lombardref10_Basket_of ?_
  unfold lombardref10_Basket_w basketS
  rw [lenM_eq, lenM_eq]
  refine ⟨_, in_r _ _ _, Br.b (fun c => Rt.i (by rw [if_pos (by simpa using c)])) (fun c => ?_)⟩
  rw [if_neg (by simpa using c)]
  refine ⟨_, amount_r _, Br.b (fun c => Rt.i (by rw [if_pos (by simpa using c)])) (fun c => ?_)⟩
  rw [if_neg (by simpa using c)]
  refine ⟨_, in_r _ _ _, Br.b (fun c => Rt.i (by rw [if_pos (by simpa using c)])) (fun c => ?_)⟩
  rw [if_neg (by simpa using c)]
  refine ⟨_, in_r _ _ _, Br.b (fun c => Rt.i (by rw [if_pos (by simpa using c)])) (fun c => ?_)⟩
  rw [if_neg (by simpa using c)]
  refine ⟨_, in_r _ _ _, Br.b (fun c => Rt.i (by rw [if_pos (by simpa using c)])) (fun c => ?_)⟩
  rw [if_neg (by simpa using c)]
  refine ⟨_, in_r _ _ _, Br.b (fun c => Rt.i (by rw [if_pos (by simpa using c)])) (fun c => ?_)⟩
  rw [if_neg (by simpa using c)]
  have hc : inS (b.Cuts.length : Nat) 1 64 = true := by simpa using c
  have hc2 : b.Cuts.length ≤ 64 := by unfold inS at hc; have := of_decide_eq_true hc; omega
  refine Br.i (fun c => Rt.i (by rw [if_pos c])) (fun cb => ?_)
  rw [if_neg cb]
  refine Br.i (fun c => Rt.i (by rw [if_pos c])) (fun c => ?_)
  rw [if_neg c]
  refine ⟨_, in_r _ _ _, Br.b (fun c => Rt.i (by rw [if_pos (by simpa using c)])) (fun c => ?_)⟩
  rw [if_neg (by simpa using c)]
  refine ⟨_, RCurrency_r _, Br.b (fun c => Rt.i (by rw [if_pos (by simpa using c)])) (fun c => ?_)⟩
  rw [if_neg (by simpa using c)]
  refine cuts_l (by omega) b.Cuts.length 0 (by omega) (fun k => Rt.i (by rw [List.drop_zero] at k; rw [if_pos k])) (fun k => ?_)
  rw [List.drop_zero] at k
  rw [k, if_neg (by decide)]
  refine bar_l (by omega) b.Barred.length 0 none (by omega) (.inl ⟨rfl, rfl⟩) (fun k => Rt.i (by rw [List.drop_zero] at k; rw [if_pos k])) (fun k => Rt.i ?_)
  rw [List.drop_zero] at k
  rw [k, if_neg (by decide)]
theorem bar_pw : ∀ (l : List Int) (p : Option Int), barS p l = true → l.Pairwise (· < ·) ∧ ∀ y, p = some y → ∀ x ∈ l, y < x
  | [], _, _ => ⟨List.Pairwise.nil, fun _ _ x hx => by cases hx⟩
  | x :: l, p, h => by
    rw [barS_cons] at h
    split at h
    · cases h
    · have key : barS (some x) l = true ∧ ∀ y, p = some y → y < x := by
        cases p with
        | none => exact ⟨h, fun y hy => by cases hy⟩
        | some y =>
          have h : (if x ≤ y then false else barS (some x) l) = true := h
          split at h
          · cases h
          · exact ⟨h, fun z hz => by cases hz; omega⟩
      obtain ⟨k1, k2⟩ := bar_pw l (some x) key.1
      refine ⟨List.pairwise_cons.2 ⟨fun z hz => k2 x rfl z hz, k1⟩, fun y hy z hz => ?_⟩
      have := key.2 y hy
      rcases List.mem_cons.1 hz with rfl | hz
      · exact this
      · have := k2 x rfl z hz; omega
theorem if1 {c : Prop} [Decidable c] {a x : Int} (ha : a ≠ 0) (h : (if c then a else x) = 0) : ¬ c ∧ x = 0 := by
  by_cases k : c
  · rw [if_pos k] at h; exact absurd h ha
  · rw [if_neg k] at h; exact ⟨k, h⟩
theorem basket_ok {b : api_Basket} (h : basketS b = 0) : Rules b := by
  unfold basketS at h
  obtain ⟨_, h⟩ := if1 (by decide) h
  obtain ⟨_, h⟩ := if1 (by decide) h
  obtain ⟨_, h⟩ := if1 (by decide) h
  obtain ⟨_, h⟩ := if1 (by decide) h
  obtain ⟨_, h⟩ := if1 (by decide) h
  obtain ⟨hc, h⟩ := if1 (by decide) h
  obtain ⟨hb, h⟩ := if1 (by decide) h
  obtain ⟨_, h⟩ := if1 (by decide) h
  obtain ⟨_, h⟩ := if1 (by decide) h
  obtain ⟨_, h⟩ := if1 (by decide) h
  obtain ⟨_, h⟩ := if1 (by decide) h
  obtain ⟨hbar, _⟩ := if1 (by decide) h
  have hc : inS (b.Cuts.length : Nat) 1 64 = true := by simpa using hc
  refine ⟨?_, by omega, (bar_pw _ none (by simpa using hbar)).1⟩
  unfold inS at hc; have := of_decide_eq_true hc; omega
/-! The law. -/
theorem law_l {a0 : List api_Asset} {a1 : List api_Price} {a3 : List api_Lot} {a4 : Int} {a2 : api_Basket} (hl : a0.length ≤ 40) {Q : (List KN) × Bool × (List api_Asset) × (List Int) → Prop} (q : ∀ r, Fine r → Q (r, true, r.map (·.A), r.map (·.Price))) :
    ∀ (n i : Nat) (r : List KN), n + i = a0.length → Fine r → r.length ≤ i → lombardlaw17_LotsEligible_L0 a0 a1 a3 a4 a2 Q r (i : Int) true (r.map (·.A)) (r.map (·.Price)) := by
  intro n
  induction n with
  | zero =>
    intro i r hn hf hr
    refine lombardlaw17_LotsEligible_l0 ?_
    unfold lombardlaw17_LotsEligible_w0
    rw [lenM_eq]
    exact Br.neg (by omega) (Lf.i (q r hf))
  | succ n ih =>
    intro i r hn hf hr
    have hi : i < a0.length := by omega
    refine lombardlaw17_LotsEligible_l0 ?_
    unfold lombardlaw17_LotsEligible_w0
    rw [lenM_eq]
    have g : a0[(i : Int).toNat]? = some a0[i] := by simp [hi]
    obtain ⟨r', e, h1, h2, h3, h4, h5⟩ := Add_both hf.1 (by omega) a0[i]
    refine Br.pos (by omega) ⟨a0[i], Got.i ⟨_, h1, Got.i ⟨_, h2, Num.n (by omega) (ih (i + 1) r' (by omega) ⟨h3, by omega, fun y hy => ?_⟩ (by omega))⟩ (by omega) g⟩ (by omega) g⟩
    rcases h5 y hy with h | ⟨h, k⟩
    · exact hf.2.2 y h
    · rw [h]; exact k
theorem law_r {a0 : List api_Asset} {a1 : List api_Price} {a2 : api_Basket} {a3 : List api_Lot} {a4 : Int} (hc : a2.Cuts.length ≤ 100000000000000000) : lombardlaw17_LotsEligible_r a0 a1 a2 a3 a4 true := by
  refine lombardlaw17_LotsEligible_of ?_
  unfold lombardlaw17_LotsEligible_w
  simp only [lenM_eq]
  refine ⟨_, Basket_r hc, Br.i (fun _ => ⟨_, awake_r, Rt.i rfl⟩) (fun c0 => ?_)⟩
  have hb := basket_ok (Decidable.not_not.1 c0)
  refine Br.i (fun _ => ⟨_, awake_r, Rt.i rfl⟩) (fun c1 => Br.i (fun _ => ⟨_, awake_r, Rt.i rfl⟩) (fun c2 => Br.i (fun _ => ⟨_, awake_r, Rt.i rfl⟩) (fun c3 => ?_)))
  refine ⟨bk [], asset_New_of (by unfold asset_New_w; exact Rt.i rfl), ?_⟩
  refine law_l (by omega) (fun r hf => ?_) a0.length 0 [] (by omega) ⟨List.Pairwise.nil, by simp, by simp⟩ (by simp)
  obtain ⟨q, n, e, h1, h2, h3⟩ := Set_both hf.1 hf.2.1 (p := a1) (by omega)
  have hq : Fine q := by
    refine ⟨ord_A hf.1 h3.symm, ?_, fun y hy => ?_⟩
    · have := congrArg List.length h3
      rw [List.length_map, List.length_map] at this
      have := hf.2.1
      omega
    · have hm : y.A ∈ q.map (·.A) := List.mem_map.2 ⟨y, hy, rfl⟩
      rw [h3] at hm
      obtain ⟨z, hz, e⟩ := List.mem_map.1 hm
      rw [← e]; exact hf.2.2 z hz
  have hlen := in_out (r := q) (b := a2) (day := a4) a3
  refine ⟨_, h1, _, h2, _, Eligible_r hq hb (by omega), _, REligible_r hq hb (by omega), _, same_r ?_, Br.t rfl ⟨_, Lots_r ?_, Br.t rfl (Num.n ?_ (Br.pos ?_ ⟨_, awake_r, Rt.i rfl⟩))⟩⟩
  · show (isort leE (inL q a2 a4 a3)).length ≤ _
    rw [isort_len]; omega
  · show (outL q a2 a4 a3).length ≤ _
    omega
  · show _ ≤ (((isort leE (inL q a2 a4 a3)).length : Nat) : Int) + (((outL q a2 a4 a3).length : Nat) : Int) ∧ (((isort leE (inL q a2 a4 a3)).length : Nat) : Int) + (((outL q a2 a4 a3).length : Nat) : Int) ≤ _
    rw [isort_len]; omega
  · show (((isort leE (inL q a2 a4 a3)).length : Nat) : Int) + (((outL q a2 a4 a3).length : Nat) : Int) = _
    rw [isort_len]; omega
end Go.Proofs.Ytdljcgikknaffaa.Pure
