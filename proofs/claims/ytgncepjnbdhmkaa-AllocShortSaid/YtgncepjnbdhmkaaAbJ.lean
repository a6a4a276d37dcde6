/- Steps, regions in their order, code, functions. -/
import Derived.Test.YtgncepjnbdhmkaaAbP
set_option linter.unusedVariables false
set_option linter.unusedSimpArgs false
namespace Go.Ab

variable {P : Program} {B : Base} {s : St} {a : Act} {w : World} {ρ : Nat → Value}

def dstOk (n : Nat) : Option Tmp → Bool
  | some d => decide (d < n)
  | none => true

theorem dstOk_spec {n : Nat} {dst : Option Tmp} (h : dstOk n dst = true) : ∀ d, dst = some d → d < n := by
  intro d hd; subst hd; simpa [dstOk] using h

/-- What a test came to. -/
def vDir (h : Hint) (r : List Prop × A) : Option (List Prop × A) :=
  match h with
  | .dir b => match r.2 with | .t (.v (.bool β)) => some (r.1 ++ [β = b], .t (.v (.bool b))) | _ => none
  | .nilv l => some (r.1, A.nils l r.2)
  | _ => some r

def valueOp (P : Program) (o : Oper) (h : Hint) (s : St) : Option (List Prop × A) :=
  match o.op with
  | .build t parts => vBuild P t parts.toList s
  | .lookup t m k ok => vLookup P t m k ok h s
  | _ => vOp P o h s

/-- One operation. -/
def step0 (P : Program) (n : Nat) (o : Oper) (h : Hint) (s : St) : Option (List Prop × St) :=
  if dstOk n o.dst then
    match o.op with
    | .box _ x => eBox x o.dst h s
    | .alloc e => eAlloc P e o.dst h s
    | .store t ad x => if o.dst.isNone then eStore P t ad x h s else none
    | .buildSlice t len parts => eBuildSlice P t len parts.toList o.dst h s
    | .makeSlice t l c => match o.dst with | some d => eMake P t l c o.dst h d s | none => none
    | .call { callee := .builtin .append, args := args, argTypes := tys } => match args.toList, tys.toList with
      | [x, y], [t, t2] => eAppend P t t2 x y o.dst h s
      | _, _ => none
    | .call { callee := .builtin .delete, args := args, argTypes := tys } => match args.toList, tys.toList with
      | [m, k], [t, _] => eDelete P t m k o.dst h s
      | _, _ => none
    | .makeMap t none => eMakeMap P t o.dst h s
    | .mapUpdate t m k v => if o.dst.isNone then eMapUpdate P t m k v h s else none
    | .mapEntry t m k => eMapEntry P t m k o.dst h s
    | .entryStore _ m x v => if o.dst.isNone then eEntryStore m x v h s else none
    | .range t x => eRange P t x o.dst h s
    | .next x false => eNext x o.dst h s
    | .entry x => eEntry x o.dst h s
    | .call { callee := .value f, args := args, .. } => match roInfo h with
      | some (nl, r) => eRO P f args.toList o.dst nl r s
      | none => eCall P f args.toList o.dst h s
    | _ => ((valueOp P o h s).bind (vDir h)).map fun r => (r.1, s.putO o.dst r.2)
  else none

/-- The same; what it makes is told as what doesn't change, where the hint says so. -/
def step (P : Program) (n : Nat) (o : Oper) (h : Hint) (s : St) : Option (List Prop × St) :=
  match h, o.dst with
  | .fz, some d => (step0 P n o .fz s).map fun r => (r.1, r.2.frz d)
  | h, _ => step0 P n o h s

theorem AllP_append : ∀ {l m : List Prop}, AllP (l ++ m) ↔ AllP l ∧ AllP m
  | [], m => by simp [AllP]
  | [p], [] => by simp [AllP]
  | [p], q :: m => by simp [AllP]
  | p :: q :: l, m => by
    have := AllP_append (l := q :: l) (m := m)
    simp only [List.cons_append, AllP] at this ⊢
    rw [this, and_assoc]

theorem vDir_spec {h : Hint} {r : List Prop × A} {p : List Prop} {x : A} (hv : vDir h r = some (p, x)) (hp : AllP p) : AllP r.1 ∧ ∀ ρ C u, relA ρ C r.2 u → relA ρ C x u := by
  unfold vDir at hv
  split at hv
  · rename_i b
    split at hv
    · rename_i β hr
      cases hv
      rw [AllP_append] at hp
      refine ⟨hp.1, fun ρ C u hu => ?_⟩
      have : β = b := hp.2
      rw [hr, this] at hu; exact hu
    · cases hv
  · cases hv; exact ⟨hp, fun _ _ _ h => relA_nils _ _ _ h⟩
  · cases hv; exact ⟨hp, fun _ _ _ h => h⟩

theorem valueOp_sound (h : Rel B s a w ρ) {o : Oper} {hh : Hint} {p : List Prop} {z : A} (hv : valueOp P o hh s = some (p, z)) (hp : AllP p) :
    ∃ u, (execOp a.eval o).run P w = .ok (.value u) w ∧ relA ρ (view B.hid (own ρ s.objs) w) z u := by
  unfold valueOp at hv
  split at hv
  · rename_i t parts ho
    have := value_run (vBuild_sound (P := P) h hv)
    simpa only [execOp, ho, Array.toArray_toList] using this
  · rename_i t m k ok ho
    obtain ⟨u, h1, h2⟩ := vLookup_sound h hv hp
    exact ⟨u, by simp only [execOp, ho]; simp [h1], h2⟩
  · exact vOp_sound h hv hp

/-- What a step is good for: whatever follows, if it holds behind the step's state, holds behind Go's. -/
theorem step0_sound (h : Rel B s a w ρ) {o : Oper} {hh : Hint} {p : List Prop} {s' : St} (hv : step0 P B.n o hh s = some (p, s')) (hp : AllP p) {K : Act → World → Prop} {Q : Exit → Act → World → Prop}
    (hK : ∀ a' w' ρ', Rel B s' a' w' ρ' → K a' w') : o.wp P a w K Q := by
  unfold step0 at hv
  split at hv
  · rename_i hdst
    have hd := dstOk_spec hdst
    have fin : EOk P B s' a w o → o.wp P a w K Q := by
      rintro ⟨u, w', ρ', h1 | ⟨h1, rfl⟩, h2⟩
      · unfold Oper.wp; rw [h1]; exact hK _ _ _ h2
      · unfold Oper.wp; rw [h1]; exact hK _ _ _ h2
    split at hv
    · rename_i e x ho; exact fin (eBox_sound h ho hv hd)
    · rename_i e ho; exact fin (eAlloc_sound h ho hv hd)
    · rename_i t ad x ho
      split at hv
      · rename_i hn; exact fin (eStore_sound h ho (by simpa using hn) hv hp)
      · cases hv
    · rename_i t len parts ho; exact fin (eBuildSlice_sound h ho hv hd)
    · rename_i t l c ho
      split at hv
      · exact fin (eMake_sound h ho hv hp hd)
      · cases hv
    · rename_i args tys ho
      split at hv
      · rename_i x y t t2 h1 h2
        exact fin (eAppend_sound h ho (by rw [← Array.toList_inj]; simpa using h1) (by rw [← Array.toList_inj]; simpa using h2) hv hp hd)
      · cases hv
    · rename_i args tys ho
      split at hv
      · rename_i m k t t2 h1 h2
        obtain rfl : args = #[m, k] := by rw [← Array.toList_inj]; simpa using h1
        obtain rfl : tys = #[t, t2] := by rw [← Array.toList_inj]; simpa using h2
        exact fin (eDelete_sound h ho hv hp hd)
      · cases hv
    · rename_i t ho; exact fin (eMakeMap_sound h ho hv hd)
    · rename_i t m k v ho
      split at hv
      · rename_i hn
        obtain ⟨w', h1, h2⟩ := eMapUpdate_sound h hv hp
        have hn' : o.dst = none := by simpa using hn
        refine fin ⟨undef, w', ρ, .inr ⟨by simp only [execOp, ho]; simp [h1], rfl⟩, ?_⟩
        rw [hn']; exact h2
      · cases hv
    · rename_i t m k ho; exact fin (eMapEntry_sound h ho hv hp hd)
    · rename_i t m x v ho
      split at hv
      · rename_i hn
        obtain ⟨w', h1, h2⟩ := eEntryStore_sound (P := P) (t := t) h hv hp
        have hn' : o.dst = none := by simpa using hn
        refine fin ⟨undef, w', ρ, .inr ⟨by simp only [execOp, ho]; simp [h1], rfl⟩, ?_⟩
        rw [hn']; exact h2
      · cases hv
    · rename_i t x ho; exact fin (eRange_sound h ho hv hd)
    · rename_i x ho; exact fin (eNext_sound h ho hv hp hd)
    · rename_i x ho; exact fin (eEntry_sound h ho hv hp hd)
    · rename_i f args tys ho
      have hcall : ∃ g us, (execOp a.eval o).run P w = .ok (.enter g us) w ∧ Calls P g us w (fun e w' => ∃ u ρ', e = .returned u ∧ Rel B s' (a.put o.dst u) w' ρ') := by
        split at hv
        · exact eRO_sound h ho hv hp hd
        · exact eCall_sound h ho hv hp hd
      obtain ⟨g, us, h1, h2⟩ := hcall
      unfold Oper.wp
      rw [h1]
      simp only [Oper.upon]
      refine h2.mono ?_
      rintro e w' ⟨u, ρ', rfl, h3⟩
      exact hK _ _ _ h3
    · simp only [Option.map_eq_some_iff, Option.bind_eq_some_iff, Prod.mk.injEq] at hv
      obtain ⟨r2, ⟨r, h1, h2⟩, rfl, rfl⟩ := hv
      obtain ⟨h3, h4⟩ := vDir_spec (r := r) (p := r2.1) (x := r2.2) h2 hp
      obtain ⟨u, h5, h6⟩ := valueOp_sound h (p := r.1) (z := r.2) h1 h3
      unfold Oper.wp; rw [h5]
      exact hK _ _ _ (h.putO hd (h4 _ _ _ h6))
  · cases hv

theorem step_sound (h : Rel B s a w ρ) {o : Oper} {hh : Hint} {p : List Prop} {s' : St} (hv : step P B.n o hh s = some (p, s')) (hp : AllP p) {K : Act → World → Prop} {Q : Exit → Act → World → Prop}
    (hK : ∀ a' w' ρ', Rel B s' a' w' ρ' → K a' w') : o.wp P a w K Q := by
  unfold step at hv
  split at hv
  · rename_i d hd
    simp only [Option.map_eq_some_iff] at hv
    obtain ⟨r, hr, hv⟩ := hv
    cases hv
    exact step0_sound h (p := r.1) (s' := r.2) hr hp fun a' w' ρ' h' => hK a' w' ρ' (h'.frz d)
  · exact step0_sound h hv hp hK

def hintOf (hs : List (Nat × Hint)) (i : Nat) : Hint := (hs.lookup i).getD .no

/-- Whether an operation is carried out. -/
def guardA (s : St) (ops : List Oper) (o : Oper) : Option Bool :=
  match o.guard with
  | none => some true
  | some (j, want) => match (ops[j]?).bind (·.dst) with
    | some d => match s.slots d with
      | .t (.v (.bool b)) => some (b == want)
      | .tup [] => some false
      | _ => none
    | none => none

def opAt (P : Program) (n : Nat) (ops : List Oper) (hs : List (Nat × Hint)) (i : Nat) (s : St) : Option (List Prop × St) :=
  match ops[i]? with
  | none => some ([], s)
  | some o => match guardA s ops o with
    | some true => step P n o (hintOf hs i) s
    | some false => if dstOk n o.dst then some ([], s.putO o.dst (.tup [])) else none
    | none => none

def runOps (P : Program) (n : Nat) (ops : List Oper) (hs : List (Nat × Hint)) : List Nat → St → Option (List Prop × St)
  | [], s => some ([], s)
  | i :: rest, s => match opAt P n ops hs i s with
    | some (p, s1) => match runOps P n ops hs rest s1 with
      | some (q, s2) => some (p ++ q, s2)
      | none => none
    | none => none

theorem guardA_spec (h : Rel B s a w ρ) {ops : Array Oper} {o : Oper} {b : Bool} (hg : guardA s ops.toList o = some b) : Region.wanted o (yielded ops a.tmps) = b := by
  unfold guardA at hg
  unfold Region.wanted
  split at hg
  · rename_i hgu; cases hg; simp [hgu]
  · rename_i j want hgu
    simp only [hgu]
    split at hg
    · rename_i d hd
      have hs := h.slots d
      have hd' : (ops[j]?).bind (·.dst) = some d := by simpa using hd
      unfold yielded
      rw [hd']
      simp only [Option.bind_some]
      rw [Array.getD_eq_getD_getElem?] at hs
      split at hg
      · rename_i c he
        cases hg
        rw [he] at hs
        simp only [relA, rep] at hs
        cases hx : a.tmps[d]? with
        | none => rw [hx] at hs; simp [undef] at hs
        | some u => rw [hx] at hs; simp at hs; subst hs; cases c <;> cases want <;> rfl
      · rename_i he
        cases hg
        rw [he] at hs
        simp only [relA, relAs] at hs
        obtain ⟨cs, h1, h2⟩ := hs
        cases hx : a.tmps[d]? with
        | none => rfl
        | some u => rw [hx] at h1; simp at h1; subst h1; rfl
      · cases hg
    · cases hg

theorem relA_undef {C : View} : relA ρ C (.tup []) undef := by
  simp only [relA]; exact ⟨#[], rfl, by simp [relAs]⟩

/-- An operation of a region, as kit's walk asks for it. -/
theorem opAt_sound (h : Rel B s a w ρ) {ops : Array Oper} {hs : List (Nat × Hint)} {i : Nat} {p : List Prop} {s' : St} (hv : opAt P B.n ops.toList hs i s = some (p, s')) (hp : AllP p) {K : Act → World → Prop} {Q : Exit → Act → World → Prop}
    (hK : ∀ a' w' ρ', Rel B s' a' w' ρ' → K a' w') :
    match ops[i]? with
    | none => K a w
    | some o => if Region.wanted o (yielded ops a.tmps) then o.wp P a w K Q ∨ (o.asks P a w ∧ LetsOut Q) else K (a.put o.dst undef) w := by
  unfold opAt at hv
  have e : ops.toList[i]? = ops[i]? := by simp
  rw [e] at hv
  cases ho : ops[i]? with
  | none => rw [ho] at hv; cases hv; exact hK _ _ _ h
  | some o =>
    rw [ho] at hv
    simp only at hv ⊢
    split at hv
    · rename_i hg
      rw [if_pos (guardA_spec h hg)]
      exact .inl (step_sound h hv hp hK)
    · rename_i hg
      split at hv
      · rename_i hd
        cases hv
        rw [if_neg (by rw [guardA_spec h hg]; exact Bool.false_ne_true)]
        exact hK _ _ _ (h.putO (dstOk_spec hd) relA_undef)
      · cases hv
    · cases hv

theorem runOps_sound {ops : Array Oper} {hs : List (Nat × Hint)} {Q : Exit → Act → World → Prop} : ∀ (l : List Nat) {s : St} {a : Act} {w : World} {ρ : Nat → Value} {p : List Prop} {s' : St}, Rel B s a w ρ → runOps P B.n ops.toList hs l s = some (p, s') → AllP p →
    (∀ a' w' ρ', Rel B s' a' w' ρ' → Q .normal a' w') → wpOps P ops Q l a w
  | [], s, a, w, ρ, p, s', h, hv, _, hQ => by simp only [runOps, Option.some.injEq, Prod.mk.injEq] at hv; obtain ⟨_, rfl⟩ := hv; exact hQ _ _ _ h
  | i :: rest, s, a, w, ρ, p, s', h, hv, hp, hQ => by
    simp only [runOps] at hv
    split at hv
    · rename_i p1 s1 h1
      split at hv
      · rename_i q s2 h2
        cases hv
        rw [AllP_append] at hp
        have := opAt_sound (Q := Q) (K := wpOps P ops Q rest) h h1 hp.1 fun a' w' ρ' h' => runOps_sound rest h' h2 hp.2 hQ
        simp only [wpOps]
        exact this
      · cases hv
    · cases hv

/-- What holds of code, whatever Go's frame and memory are that stand to the state: it ends so that K holds of its exit and of a state that they stand to then. -/
def W (P : Program) (n : Nat) (c : Code) (K : Exit → St → Prop) (s : St) : Prop :=
  ∀ (B : Base), B.n = n → ∀ a w ρ, Rel B s a w ρ → c.wp P (fun e a' w' => ∃ s' ρ', K e s' ∧ Rel B s' a' w' ρ') a w

def W.then (K1 : St → Prop) (K : Exit → St → Prop) : Exit → St → Prop
  | .normal, s => K1 s
  | e, s => K e s

variable {n : Nat} {K : Exit → St → Prop}

theorem W_mono {c : Code} {K' : Exit → St → Prop} (h : W P n c K s) (hK : ∀ e s, K e s → K' e s) : W P n c K' s :=
  fun B hB a w ρ hr => wp_mono (h B hB a w ρ hr) fun _ _ _ ⟨s', ρ', h1, h2⟩ => ⟨s', ρ', hK _ _ h1, h2⟩

theorem W_weak {c : Code} {s' : St} (h : W P n c K s') (hb : s'.base = s.base) (hs : ∀ i, s'.slots i = s.slots i ∨ s'.slots i = .dead) (ho : ∀ i, s'.objs i = s.objs i ∨ s'.objs i = none) : W P n c K s :=
  fun B hB a w ρ hr => h B hB a w ρ (hr.weak hb hs ho)

theorem W_seq {x y : Code} (h : W P n x (W.then (W P n y K) K) s) : W P n (.seq x y) K s := by
  intro B hB a w ρ hr
  refine wp_seq (wp_mono (h B hB a w ρ hr) ?_)
  rintro e a' w' ⟨s', ρ', h1, h2⟩
  cases e with
  | normal => exact h1 B hB a' w' ρ' h2
  | exit id => exact ⟨s', ρ', h1, h2⟩
  | goto l => exact ⟨s', ρ', h1, h2⟩
  | ret => exact ⟨s', ρ', h1, h2⟩
  | panic ch => exact ⟨s', ρ', h1, h2⟩
  | outgrown => exact ⟨s', ρ', h1, h2⟩

theorem W_skip (h : K .normal s) : W P n .skip K s := fun _ _ _ _ ρ hr => wp_skip ⟨s, ρ, h, hr⟩
theorem W_exit {id : Nat} (h : K (.exit id) s) : W P n (.exit id) K s := fun _ _ _ _ ρ hr => wp_exit ⟨s, ρ, h, hr⟩
theorem W_ret (h : K .ret s) : W P n .ret K s := fun _ _ _ _ ρ hr => wp_ret ⟨s, ρ, h, hr⟩

theorem W_cond {c : Operand} {x y : Code} {β t : Bool} (hc : ev s c = .t (.v (.bool β))) (hb : β = t) (h : W P n (if t then x else y) K s) : W P n (.cond c x y) K s := by
  intro B hB a w ρ hr
  have := hr.opd c
  rw [hc] at this
  simp only [relA, rep] at this
  exact wp_cond (t := t) (by rw [this, hb]) (h B hB a w ρ hr)

def W.inBlock (id : Nat) (K : Exit → St → Prop) : Exit → St → Prop
  | .exit id', s => if id' = id then K .normal s else K (.exit id') s
  | e, s => K e s

theorem W_block {id : Nat} {c : Code} (h : W P n c (W.inBlock id K) s) : W P n (.block id c) K s := by
  intro B hB a w ρ hr
  refine wp_block (wp_mono (h B hB a w ρ hr) ?_)
  rintro e a' w' ⟨s', ρ', h1, h2⟩
  cases e with
  | exit id' =>
    simp only [W.inBlock, Exit.inBlock] at h1 ⊢
    split at h1
    · rename_i h3; rw [if_pos h3]; exact ⟨s', ρ', h1, h2⟩
    · rename_i h3; rw [if_neg h3]; exact ⟨s', ρ', h1, h2⟩
  | normal => exact ⟨s', ρ', h1, h2⟩
  | goto l => exact ⟨s', ρ', h1, h2⟩
  | ret => exact ⟨s', ρ', h1, h2⟩
  | panic ch => exact ⟨s', ρ', h1, h2⟩
  | outgrown => exact ⟨s', ρ', h1, h2⟩

/-- What holds of a loop's rounds. -/
structure LW (P : Program) (n : Nat) (c : Code) (K : Exit → St → Prop) (s : St) : Prop where
  out : ∀ (B : Base), B.n = n → ∀ a w ρ, Rel B s a w ρ → ∀ (b : Frame) (k : List Item) (cs : List Frame),
    ∃ e a' w', (∃ s' ρ', K e s' ∧ Rel B s' a' w' ρ') ∧ Arrives P (lone (b.at a (.code c :: .inLoop c :: k)) cs w) b k cs e a' w'

theorem W_loop {c : Code} (h : LW P n c K s) : W P n (.loop c) K s := by
  intro B hB a w ρ hr b k cs
  obtain ⟨e, a', w', hq, harr⟩ := h.out B hB a w ρ hr b k cs
  exact ⟨e, a', w', hq, .of_steps (.one step_loop) harr⟩

/-- A round of a loop, and the others behind it. -/
theorem LW_round {c : Code} (h : W P n c (W.then (LW P n c K) K) s) : LW P n c K s := by
  refine ⟨?_⟩
  intro B hB a w ρ hr b k cs
  obtain ⟨e, a1, w1, ⟨s1, ρ1, hq, hr1⟩, harr⟩ := h B hB a w ρ hr b (.inLoop c :: k) cs
  cases e with
  | normal =>
    obtain ⟨e2, a2, w2, hq2, harr2⟩ := hq.out B hB a1 w1 ρ1 hr1 b k cs
    exact ⟨e2, a2, w2, hq2, .of_steps (Steps.trans harr (.one step_inLoop)) harr2⟩
  | exit id => exact ⟨_, a1, w1, ⟨s1, ρ1, hq, hr1⟩, .pass (x := .inLoop c) rfl (fun _ _ => .inl (by simp)) harr⟩
  | goto l => exact ⟨_, a1, w1, ⟨s1, ρ1, hq, hr1⟩, .pass (x := .inLoop c) rfl (fun _ _ => .inl (by simp)) harr⟩
  | ret => exact ⟨_, a1, w1, ⟨s1, ρ1, hq, hr1⟩, .pass (x := .inLoop c) rfl (fun _ _ => .inl (by simp)) harr⟩
  | panic ch => exact ⟨_, a1, w1, ⟨s1, ρ1, hq, hr1⟩, .pass (x := .inLoop c) rfl (fun _ _ => .inl (by simp)) harr⟩
  | outgrown => exact ⟨_, a1, w1, ⟨s1, ρ1, hq, hr1⟩, .pass (x := .inLoop c) rfl (fun _ _ => .inl (by simp)) harr⟩

theorem LW_mono {c : Code} {K' : Exit → St → Prop} (h : LW P n c K s) (hK : ∀ e s, K e s → K' e s) : LW P n c K' s :=
  ⟨fun B hB a w ρ hr b k cs => let ⟨e, a', w', ⟨s', ρ', h1, h2⟩, h3⟩ := h.out B hB a w ρ hr b k cs; ⟨e, a', w', ⟨s', ρ', hK _ _ h1, h2⟩, h3⟩⟩

theorem LW_weak {c : Code} {s' : St} (h : LW P n c K s') (hb : s'.base = s.base) (hs : ∀ i, s'.slots i = s.slots i ∨ s'.slots i = .dead) (ho : ∀ i, s'.objs i = s.objs i ∨ s'.objs i = none) : LW P n c K s :=
  ⟨fun B hB a w ρ hr => h.out B hB a w ρ (hr.weak hb hs ho)⟩

end Go.Ab
