-- a shortened text: what this claim does not name is left out (wip/xprint/prune.py of this repo)
import Derived.Test.YtlbhjkbjokiioaaWLast
import Derived.Test.YtlbhjkbjokiioaaWKept
import Derived.Test.YtlbhjkbjokiioaaWMore
import Derived.Test.YtlbhjkbjokiioaaWTab
namespace Go.Proofs.Ytlbhjkbjokiioaa.X
open Go Go.RowKit Go.Proofs.YtlbhjkbjokiioaaW.PrintWords Go.Proofs.YtlbhjkbjokiioaaW.PrintLast Go.Proofs.YtlbhjkbjokiioaaW.PrintMore
theorem od {p : Prop} [Decidable p] (h : decide p = true := by first | (with_reducible assumption) | assumption) : p := of_decide_eq_true h
theorem am {p : Prop} (h : p := by (try simp only [List.map_toArray, List.map_cons, List.map_nil]); first | done | rfl | (simp only [List.length_drop, List.length_take]; rfl)) : p := h
theorem ac {p : Prop} (h : p := by first | rfl | (simp; done) | (simp [*]; done)) : p := h
theorem sA {α : Type _} (xs : List α) (i : Nat) (a : α) : xs.toArray.setIfInBounds i a = (xs.set i a).toArray := List.setIfInBounds_toArray ..
theorem sB {α : Type _} (x : α) (xs : List α) (a : α) : (x :: xs).set 0 a = a :: xs := rfl
theorem sC {α : Type _} (x : α) (xs : List α) (n : Nat) (a : α) : (x :: xs).set (n + 1) a = x :: xs.set n a := rfl
inductive Gr (w : World) : World → Prop
 | rf : Gr w w
 | al {W : World} : Gr w W → ∀ o : Obj, Gr w (W.alloc o)
 | dn {W : World} : Gr w W → ∀ n : Nat, Gr w (W.drewN n)
 | dr {W : World} : Gr w W → Gr w W.drew
theorem gB {a w W : World} (h : Aside0 (Below a.heap.size a w)) (g : Gr w W := by repeat (first | (with_reducible first | exact Gr.rf | refine Gr.al ?_ _ | refine Gr.dn ?_ _ | refine Gr.dr ?_) | exact Gr.rf)) : Below a.heap.size a W := by
 induction g with
 | rf => exact h.out
 | al _ o ih => exact below_alloc ih o
 | dn _ n ih => exact q14q ih n
 | dr _ ih => exact below_drew1 ih
theorem gP {a w W : World} {S : Nat → Prop} (h : Aside0 (Kept a w S)) (g : Gr w W := by repeat (first | (with_reducible first | exact Gr.rf | refine Gr.al ?_ _ | refine Gr.dn ?_ _ | refine Gr.dr ?_) | exact Gr.rf)) : Kept a W S := by
 induction g with
 | rf => exact h.out
 | al _ o ih => exact Kept.alloc ih o
 | dn _ n ih => exact Kept.drewN ih n
 | dr _ ih => exact Kept.drew ih
theorem gR {w W : World} {α : Type} {d : Kd α} {e : TypeId} {b : Nat} {ok : Nat → Prop} {v : Value} {l : List α} (h : Aside0 (d.R e w b ok v l)) (g : Gr w W := by (with_reducible repeat (first | refine Gr.al ?_ _ | refine Gr.dn ?_ _ | refine Gr.dr ?_)); exact Gr.rf) : d.R e W b ok v l := by
 induction g with
 | rf => exact h.out
 | al _ o ih => exact Kd.R_alloc ih o
 | dn _ n ih => exact Kd.R_drewN ih n
 | dr _ ih => exact Kd.R_drew ih
theorem gK {w W : World} {n : Nat} {o : Obj} (h : Aside0 (w.heap[n]? = some o)) (g : Gr w W := by (with_reducible repeat (first | refine Gr.al ?_ _ | refine Gr.dn ?_ _ | refine Gr.dr ?_)); exact Gr.rf) : W.heap[n]? = some o := by
 induction g with
 | rf => exact h.out
 | al _ o ih => exact blk_alloc ih o
 | dn _ n ih => exact blk_drewN ih n
 | dr _ ih => exact blk_drew ih
theorem gC {a w W : World} {α : Type} {d : Kd α} {A : Option Addr} {n : Nat} {l : List α} (h : Aside0 (d.C a A n l)) (hb : Aside0 (Below a.heap.size a w)) (g : Gr w W := by repeat (first | exact Gr.rf | (with_reducible refine Gr.al ?_ _) | (with_reducible refine Gr.dn ?_ _) | (with_reducible refine Gr.dr ?_))) : d.C W A n l := by
 induction g with
 | rf => exact Kd.C_below h.out hb.out
 | al _ o ih => exact Kd.C_alloc ih o
 | dn _ n ih => exact Kd.C_drewN ih n
 | dr _ ih => exact Kd.C_drew ih
theorem st_skip {P : Program} {oi : Oper} {a : Act} {W : World} {α : Type} {d : Kd α} {e : TypeId} {b : Nat} {ok : Nat → Prop} {go n cap : Nat} {xs : List α} (HO : Aside0 (d.R e W b ok (.slice (some ⟨go, 0, none⟩) n cap) xs)) (z : α) (i : Int) (h0 : 0 ≤ i) (h1 : i < n) (seg : List Value)
 {t : TypeId} {p x : Operand} {u : Value} (ho : oi.op = .store t p x) (ha : a.eval p = .pointer (some ⟨go, i.toNat * d.sz, none⟩)) (hx : a.eval x = u) (hu : u.cells.toList = seg) (hl : seg.length = d.sz) (ht : (P.info? t).map (·.size) = some seg.length) (hv : ∀ q ∈ seg, q.oneCell' = true) :
 (execOp a.eval oi).run P W = .ok .skip (W.setCells go (i.toNat * d.sz + 0) seg) := by
 obtain ⟨ce, hcl, _, hcc, hfr⟩ := Kd.R_elem HO.out z i h0 h1
 have hst := run_storeCells_cells (P := P) go (i.toNat * d.sz) seg 0 W (fun j hj => by
  have hj' : j < ce.length := by rw [hcl, ← hl]; exact hj
  have := hcc j _ (List.getElem?_eq_getElem hj')
  simp only [Nat.add_zero]
  rw [this]; rfl) (fun j _ => by simp only [Nat.add_zero]; exact hfr j) hv
 simp only [Nat.add_zero] at hst ⊢
 obtain ⟨ii, hi, hsz⟩ := Option.map_eq_some_iff.1 ht
 have hc : u.cells.size = ii.size := by rw [hsz, ← hu, Array.length_toList]
 unfold execOp
 simp [ho, ha, hx, Instr.storeAt, Instr.sureAddr, storeVar, sizeOf, typeInfo, hi, hc, hu, hst]
def pf (n k : Nat) : Array Bool := (List.replicate k true ++ List.replicate (n - k) false).toArray
def ba (n m : Nat) : Array Bool := ((List.range n).map fun i => Nat.testBit m i).toArray
theorem below_sets {w : World} {g : Nat} (hg : w.heap.size ≤ g) : ∀ (vs : List Value) (o : Nat) {W : World}, Below w.heap.size w W → Below w.heap.size w (W.setCells g o vs)
 | [], _, _, h => h
 | _ :: r, o, _, h => by rw [World.setCells]; exact below_sets hg r (o + 1) (below_set h hg)
theorem kept_sets {w : World} {S : Nat → Prop} {g : Nat} (hg : S g ∨ w.heap.size ≤ g) : ∀ (vs : List Value) (o : Nat) {W : World}, Kept w W S → Kept w (W.setCells g o vs) S
 | [], _, _, h => h
 | v :: r, o, _, h => by rw [World.setCells]; exact kept_sets hg r (o + 1) (Kept.setCell h (p := ⟨g, o, none⟩) hg v)
inductive GrS (C : Nat → Prop) (w : World) : World → Prop
 | rf : GrS C w w
 | al {W : World} : GrS C w W → ∀ o : Obj, GrS C w (W.alloc o)
 | dn {W : World} : GrS C w W → ∀ n : Nat, GrS C w (W.drewN n)
 | dr {W : World} : GrS C w W → GrS C w W.drew
 | st {W : World} : GrS C w W → ∀ {g j : Nat} {v : Value}, C g → GrS C w (W.setCell ⟨g, j, none⟩ v)
 | sts {W : World} : GrS C w W → ∀ {g j : Nat} {vs : List Value}, C g → GrS C w (W.setCells g j vs)
theorem gS {a w W : World} (h : Aside0 (Below a.heap.size a w)) (g : GrS (fun k_ => a.heap.size ≤ k_) w W := by repeat (first | (with_reducible first | exact GrS.rf | refine GrS.al ?_ _ | refine GrS.dn ?_ _ | refine GrS.dr ?_ | refine GrS.st ?_ (Aside0.out (by assumption)) | refine GrS.sts ?_ (Aside0.out (by assumption))) | exact GrS.rf)) : Below a.heap.size a W := by
 induction g with
 | rf => exact h.out
 | al _ o ih => exact below_alloc ih o
 | dn _ n ih => exact q14q ih n
 | dr _ ih => exact below_drew1 ih
 | st _ hg ih => exact below_set ih hg
 | sts _ hg ih => exact below_sets hg _ _ ih
theorem gQ {a w W : World} {S : Nat → Prop} (h : Aside0 (Kept a w S)) (g : GrS (fun k_ => S k_ ∨ a.heap.size ≤ k_) w W := by repeat (first | (with_reducible first | exact GrS.rf | refine GrS.al ?_ _ | refine GrS.dn ?_ _ | refine GrS.dr ?_ | refine GrS.st ?_ (Aside0.out (by assumption)) | refine GrS.sts ?_ (Aside0.out (by assumption))) | exact GrS.rf)) : Kept a W S := by
 induction g with
 | rf => exact h.out
 | al _ o ih => exact Kept.alloc ih o
 | dn _ n ih => exact Kept.drewN ih n
 | dr _ ih => exact Kept.drew ih
 | st _ hg ih => exact Kept.setCell ih hg _
 | sts _ hg ih => exact kept_sets hg _ _ ih
theorem pA {P : Program} {ops : Array Oper} {Q : Exit → Act → World → Prop} {md : Region.Mode} {S : World → Prop} {ds : List Nat} {T : Bool × List (List Nat × List Nat)} {i : Nat} {N : Option Tmp} {oi : Oper} {v : Value} {fuel : Nat} {l : Array Bool} {a a' : Act} {w : World}
 (HT : Aside0 (rtab md ops = T)) (l' : Array Bool) (h : wpAnyLast P md ops Q S ds fuel l' a' w) (hi : ops[i]? = some oi := by rfl) (hN : oi.dst = N := by rfl) (hc : anyT T l.toList l'.toList i = true := by kernel_rfl)
 (hQ : ∀ c a w, Q (.panic c) (a.put oi.dst v) w → Q (.panic c) a w := by exact fun _ _ _ h => h) (hy : Yields P ops oi v a := by refine Or.inl ⟨by rfl, ?_⟩; intro w'; go_simp; with_reducible rfl)
 (ha : a.put N v = a' := by simp only [Act.put, sA, sB, sC, i64_w, i32_w]; rfl) : wpAnyLast P md ops Q S ds (fuel + 1) l a w :=
 pure_ l' hi hN (any_of HT.out hc) hQ hy ha h
theorem goesV_ {P : Program} {ops : Array Oper} {Q : Exit → Act → World → Prop} {oi : Oper} {N : Option Tmp} {a : Act} {w : World} {K : Act → World → Prop} {f : FuncId} {fn : Func} {as : Array Operand} {ts : Array TypeId} {t : Tmp}
 (hv : a.eval (.tmp t) = .func (.func f) #[] #[]) (hf : P.funcs[f]? = some fn) (hname : (fn.name == "runtime.NumGoroutine") = false) (hb : fn.body.isSome = true) (args : Array Value)
 (hw : Region.wanted oi (yielded ops a.tmps) = true) (hN : oi.dst = N) (hop : oi.op = .call { callee := .value (.tmp t), args := as, argTypes := ts }) (hargs : as.map a.eval = args)
 (h : Calls P f args w fun e w' => ∃ v, e = .returned v ∧ K (a.put N v) w') : if Region.wanted oi (yielded ops a.tmps) = true then Oper.wp P oi a w K Q else K (a.put N undef) w := by
 refine call_ f args hw hN ?_ h
 have he := enters_ hf hname hb args w
 unfold execOp
 simp [hop, resolve, Deferred.ofValue, invoke, hv, hargs, he]
theorem za {n : Int} {P : Int → Prop} (f : ∀ i : Int, 0 ≤ i → i < n → P i) (i : Int) (h : 0 ≤ i := by exact od) (h2 : i < n := by exact od) : ((0 ≤ i) = True ∧ (i < n) = True) ∧ P i := ⟨⟨eq_true h, eq_true h2⟩, f i h h2⟩
theorem gc {w W : World} {p : Addr} {v : Value} (h : Aside0 (Below w.heap.size w W)) (hx : w.cell? p = some v) : W.cell? p = some v := (h.out.cell (World.block_lt_of_cell? w _ hx)).trans hx
theorem dr {w W : World} (h : Drawn0 w W := by repeat (first | exact Drawn0.refl _ | apply Drawn0.step)) : Drawn0 w W := h
theorem dn {p q : Prop} (h : p := by first | rfl | (simp; done) | (simp [*]; done)) (g : q := by repeat (first | exact Drawn0.refl _ | apply Drawn0.step)) : p ∧ q := ⟨h, g⟩
theorem h2 {p : Prop} (h : p := by first | (rw [hy_]; with_reducible exact H) | (have H2_ := (Option.bind_some _ _).symm.trans H; rw [hy_]; with_reducible exact H2_) | (have H2_ := (Option.bind_some _ _).symm.trans H; with_reducible exact H2_) | with_reducible exact H | (rw [hy_]; exact H) | exact H) : p := h
theorem dT {p : Prop} [Decidable p] (h : p) : decide p = true := decide_eq_true h
theorem dF {p : Prop} [Decidable p] (h : ¬ p) : decide p = false := decide_eq_false h
theorem aK {p : Prop} (h : p) : Aside0 p := ⟨h⟩
theorem se {P : Program} {ops : Array Oper} {rest : List Oper} {o : Oper} {a : Act} {Q : Exit → Act → World → Prop} {W w1 : World} {t : TypeId} {p : Tmp} {v : Operand} (h : ∀ w', w' = w1 → wpList P ops Q rest a w')
 (ho : o.op = .store t (.tmp p) v := by rfl) (hg : o.guard = none := by rfl) (hN : o.dst = none := by rfl)
 (hr : (execOp a.eval o).run P W = .ok .skip w1 := by first | (go_simp; done) | (go_simp; rfl) | (have hcq := hcq_.out; have hfq := hfq_.out; go_simp; done)) : wpList P ops Q (o :: rest) a W := store_event hg ho hN hr h
end Go.Proofs.Ytlbhjkbjokiioaa.X
