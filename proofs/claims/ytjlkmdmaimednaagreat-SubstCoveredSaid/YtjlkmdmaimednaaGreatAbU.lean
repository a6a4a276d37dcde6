import Derived.Test.YtjlkmdmaimednaaGreatAbJ
import Derived.RangeFuncOwn
set_option linter.unusedVariables false
set_option linter.unusedSimpArgs false
namespace Go.Ab
open Go.RowKit
variable {P:Program} {B:Base} {s:St} {a:Act} {w:World} {ρ:Nat→Value}
def Beside (ow:Nat→Prop)(w w':World):Prop:=
 w.heap.size≤w'.heap.size∧∀b,b<w.heap.size→w'.heap[b]? = w.heap[b]? ∨ (¬ ow b∧∃o:Obj,w.heap[b]? = some o∧o.isCells=false)
theorem Beside.putObj {ow:Nat→Prop}{l:Nat}{o:Obj}(o':Obj) (ho:¬ ow l) (hw:w.heap[l]? = some o) (hc:o.isCells=false):Beside ow w (w.putObj l o'):=
 ⟨by simp,fun b _=>by
  by_cases e:b=l
  ·subst e;exact .inr ⟨ho,o,hw,hc⟩
  ·exact .inl (World.putObj_heap_other e)⟩
theorem Beside.alloc {ow:Nat→Prop}(w:World) (o:Obj):Beside ow w (w.alloc o):=
 ⟨by simp,fun b hb => .inl (Below.heap_alloc w o b hb)⟩
theorem Qd1 {o:Obj}{b k:Nat}(hw:w.heap[b]? = some o) (hc:o.isCells=false):w.cell? ⟨b,k,none⟩=none:=by
 cases h:w.cell? ⟨b,k,none⟩ with
 |none=>rfl
 |some v=>
  obtain⟨o',h1,h2⟩:=cells_of_cell h
  have h1':w.heap[b]? = some o':=h1
  rw[hw] at h1';cases h1';rw[hc] at h2;cases h2
theorem Beside.view {ow hid:Nat→Prop}{w':World}(h:Beside ow w w'):(view hid ow w).le (view hid ow w'):=by
 intro b k c hc
 rw[Qae] at hc ⊢
 refine⟨hc.1,hc.2.1,?_⟩
 have hlt:b<w.heap.size:=World.block_lt_of_cell? w _ hc.2.2
 rcases h.2 b hlt with h1|⟨_,o,h2,h3⟩
 ·rw[World.cell?_of_block (w:=w) h1];exact hc.2.2
 ·rw[Qd1 h2 h3] at hc;cases hc.2.2
theorem Heap.beside {hid:Nat→Prop}{objs:Nat→Option O}{w':World}(h:Heap hid ρ objs w) (hb:Beside (own ρ objs) w w'):Heap hid ρ objs w':=
 ⟨fun i o hi=>Qbe (w:=w) hb.view (fun b hbk=>by
   have h1:=h.obj i o hi
   rcases hb.2 b (Qcj h1 hbk) with h2|⟨h2,_⟩
   ·exact h2
   ·exact absurd ⟨i,by simp[hi],hbk⟩ h2) o (h.obj i o hi),
  h.dis,h.nhid,fun b hb'=>Nat.lt_of_lt_of_le (h.hlt b hb') hb.1⟩
def Base.here (B:Base)(w:World)(ow:Nat→Prop)(ρ:Nat→Value)(ds:List Deferred):Base:={ B with w0:=w,own0:=ow,ρ0:=ρ,ds:=ds }
theorem Rel.here (h:Rel B s a w ρ){w':World}(hb:Beside (own ρ s.objs) w w') (ds:List Deferred):Rel (B.here w' (own ρ s.objs) ρ ds) s { a with defers:=ds } w' ρ:=
 ⟨h.heap.beside hb,Frm.refl _ _,fun i=>Qav hb.view _ _ (h.slots i),fun _ _=>rfl,h.n,rfl,h.base⟩
theorem Frm.putObj {w0:World}{o0 ow:Nat→Prop}(h:Frm w0 o0 ow w){l:Nat}(o:Obj) (hl:w0.heap.size≤l):Frm w0 o0 ow (w.putObj l o):=
 ⟨h.os,h.tape,h.output,by simpa using h.size,fun b hb ho=>(World.putObj_heap_other (by omega)).trans (h.block b hb ho),h.new⟩
theorem Frm.alloc {w0:World}{o0 ow:Nat→Prop}(h:Frm w0 o0 ow w) (o:Obj):Frm w0 o0 ow (w.alloc o):=
 ⟨h.os,h.tape,h.output,by have:=h.size;simp;omega,fun b hb ho=>(Below.heap_alloc w o b (Nat.lt_of_lt_of_le hb h.size)).trans (h.block b hb ho),h.new⟩
theorem Rel.back {B':Base}(h:Rel B' s a w ρ) (hx:Ext B B'):Rel { B with ds:=B'.ds } s a w ρ:=
 ⟨by have:=h.heap;rw[hx.hid] at this;exact this,hx.frm.trans h.frm,fun i=>by have:=h.slots i;rw[hx.hid] at this;exact this,
  fun i hi=>(h.keep i hi).trans (hx.ρ0 i (by rw[←hx.bs,←h.base];exact hi)),h.n.trans hx.n,h.defers,h.base.trans hx.bs⟩
theorem Rel.unmark {ds:List Deferred}{D:Nat}(h:Rel { B with ds:=mark D::ds } s a w ρ) (hD:B.w0.heap.size≤D) (ho:¬ own ρ s.objs D) (hd:w.heap[D]? = some (.deferred (some []))):
  Rel { B with ds:=ds } s { a with defers:=ds } (w.putObj D (.deferred none)) ρ:=by
 have hb:Beside (own ρ s.objs) w (w.putObj D (.deferred none)):=Beside.putObj _ ho hd rfl
 exact⟨h.heap.beside hb,h.frm.putObj _ hD,fun i=>Qav hb.view _ _ (h.slots i),h.keep,h.n,rfl,h.base⟩
end Go.Ab
