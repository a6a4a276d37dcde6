import Derived.Test.YtjlkmdmaimednaaGreatAbF
set_option linter.unusedVariables false
set_option linter.unusedSimpArgs false
namespace Go.Ab
variable {P:Program} {B:Base} {s:St} {a:Act} {w:World} {ρ:Nat→Value}
def EOk (P:Program)(B:Base)(s':St)(a:Act)(w:World)(o:Oper):Prop:=
 ∃u w' ρ',((execOp a.eval o).run P w = .ok (.value u) w'∨((execOp a.eval o).run P w = .ok .skip w'∧u=undef))∧Rel B s' (a.put o.dst u) w' ρ'
theorem Qan {k:Nat}(h:idOk s k=true):k∉s.base:=by
 unfold idOk at h
 simpa using h
theorem relAs_killσ {C:View}{k:Nat}{u:Value}{xs:List A}{us:List Value}(h:relAs ρ C xs us):relAs (fun i=>if i=k then u else ρ i) C (A.killL [k] xs) us:=
 Qb5 (fun i hi=>by simp only[List.mem_singleton] at hi;simp[hi]) xs us h
theorem Rel.alloc_box (h:Rel B s a w ρ){d k:Nat}(hd:d<B.n) (hk:k∉s.base){xs:List A}{cs:Array Value}(e:TypeId) (hx:∀C',(view B.hid (own ρ s.objs) w).le C'→relAs (fun i=>if i=k then .pointer (some ⟨w.heap.size,0,none⟩) else ρ i) C' xs cs.toList):
  Rel B ((s.mv none k (.box xs)).put d (.at k 0)) (a.put (some d) (.pointer (some ⟨w.heap.size,0,none⟩))) (w.alloc (.cells cs e)) (fun i=>if i=k then .pointer (some ⟨w.heap.size,0,none⟩) else ρ i):=by
 have h1:=h.mv (w':=w.alloc (.cells cs e)) none k (.box xs) (.pointer (some ⟨w.heap.size,0,none⟩)) hk rfl rfl rfl (by simp)
  (fun b hb _=>heap_alloc_old w _ b hb) (fun b hb => .inl (by simp[blockOf] at hb;omega)) (fun C' hC=>⟨w.heap.size,cs,e,rfl,heap_alloc_new w _,hx C' hC⟩)
 refine h1.put hd ?_
 simp only[relA]
 exact⟨w.heap.size,by simp,rfl⟩
theorem eBox_sound (h:Rel B s a w ρ){o:Oper}{e:TypeId}{x:Operand}(ho:o.op = .box e x){hh:Hint}{p:List Prop}{s':St}(hv:eBox x o.dst hh s=some (p,s')) (hd:∀d,o.dst=some d→d<B.n):EOk P B s' a w o:=by
 unfold eBox at hv
 split at hv
 ·rename_i d xs hdst hx
  split at hv
  ·rename_i hid
   cases hv
   obtain⟨h1,_⟩:=Qc1 h hx (h.opd x)
   have hrun:(execOp a.eval o).run P w = .ok (.value (.pointer (some ⟨w.heap.size,0,none⟩))) (w.alloc (.cells (a.eval x).cells e)):=by
    simp[execOp,ho,Instr.box,newVar,newRow]
   have hrel:=h.alloc_box (hd d hdst) (Qan hid) (cs:=(a.eval x).cells) e fun C' hC=>relAs_killσ (Qas hC _ _ h1)
   rw[←hdst] at hrel
   exact⟨_,_,_,.inl hrun,hrel⟩
  ·cases hv
 ·cases hv
theorem relAs_tvσ {σ:Nat→Value}{C:View}(us:List Value):relAs σ C (us.map tv) us:=Qgd us
theorem eAlloc_sound (h:Rel B s a w ρ){o:Oper}{e:TypeId}(ho:o.op = .alloc e){hh:Hint}{p:List Prop}{s':St}(hv:eAlloc P e o.dst hh s=some (p,s')) (hd:∀d,o.dst=some d→d<B.n):EOk P B s' a w o:=by
 unfold eAlloc at hv
 split at hv
 ·rename_i d i hdst hi
  split at hv
  ·rename_i z hz
   split at hv
   ·rename_i hid
    cases hv
    have hrun:(execOp a.eval o).run P w = .ok (.value (.pointer (some ⟨w.heap.size,0,none⟩))) (w.alloc (.cells z.cells e)):=by
     simp[execOp,ho,Instr.alloc,zeroValue,typeInfo,hi,hz,newVar,newRow]
    have hrel:=h.alloc_box (hd d hdst) (Qan hid) (cs:=z.cells) e fun C' hC=>relAs_tvσ _
    rw[←hdst] at hrel
    exact⟨_,_,_,.inl hrun,hrel⟩
   ·cases hv
  ·cases hv
 ·cases hv
theorem Qdq {w:World}{b off:Nat}{cur:Array Value}{e t:TypeId}{v:Value}(hg:w.heap[b]? = some (.cells cur e (0,0))) (hi:(P.info? t).isSome=true) (hs:sizeT P t=v.cells.size)
  (hl:off+v.cells.size≤cur.size) (h1:∀c∈v.cells.toList,c.oneCell'=true):
  (Instr.storeAt t (.pointer (some ⟨b,off,none⟩)) v).run P w = .ok () (w.setRow b (splice off v.cells.toList cur.toList).toArray):=by
 obtain⟨i,hi⟩:=Option.isSome_iff_exists.1 hi
 have hs':i.size=v.cells.size:=by unfold sizeT at hs;rw[hi] at hs;exact hs
 have:=run_storeCells_at (P:=P) b off e v.cells.toList 0 cur w hg (by simpa using hl) h1
 simp only[Nat.add_zero] at this
 simp only[Instr.storeAt,Instr.sureAddr,Sem.run_bind,Sem.run_pure,Result.andThen_ok,storeVar,sizeOf,typeInfo,run_program,hi]
 rw[if_neg (by simp[hs'])]
 simpa[splice] using this
theorem Qe0 {C:View}:∀{xs:List A}{tsv:List T}{us:List Value},toTs xs=some tsv→relAs ρ C xs us→xs=ts tsv
 |[],tsv,us,h,_=>by simp[toTs] at h;subst h;rfl
 |x::xs,tsv,us,h,hr=>by
  simp only[toTs] at h
  split at h
  ·rename_i t l ht hl
   cases h
   simp only[relAs] at hr
   obtain⟨u,us',rfl,_,h2⟩:=hr
   have:x = .t t:=by unfold toT at ht;split at ht<;>simp_all
   rw[this,Qe0 hl h2];rfl
  ·cases h
theorem row_in_len {C:View}{m:Nat}{rows:List (List T)}{V:Nat→Option Value}{off k:Nat}{r:List T}(h:repRows C m rows V off) (hr:rows[k]? = some r):r.length=m:=(Qax h hr).1
theorem mul_row {k m cap n:Nat}(hk:k<n) (hn:n≤cap):k*m+m≤cap*m:=by
 have:(k+1)*m≤cap*m:=Nat.mul_le_mul_right m (by omega)
 rw[Nat.add_mul] at this;omega
theorem repRows_set {C:View}{m:Nat}{rows:List (List T)}{V W:Nat→Option Value}{k:Nat}{r:List T}(h:repRows C m rows V 0) (hlen:r.length=m) (hk:k<rows.length)
  (hr:repRow C r W (k*m)) (hout:∀i,(i<k*m∨k*m+m≤i)→∀c,V i=some c→W i=some c):repRows C m (rows.set k r) W 0:=by
 refine Qbn fun j r' hj => ?_
 by_cases hjk:j=k
 ·subst hjk
  rw[List.getElem?_set_self hk] at hj;cases hj
  exact⟨hlen,by simpa using hr⟩
 ·rw[List.getElem?_set_ne (fun e=>hjk e.symm)] at hj
  obtain⟨h1,h2⟩:=Qax h hj
  refine⟨h1,Qbd fun l t hl => ?_⟩
  obtain⟨c,h3,h4⟩:=Qa9 h2 hl
  have hlt:l<m:=by rw[←h1];exact(List.getElem?_eq_some_iff.1 hl).1
  refine⟨c,hout _ ?_ c h3,h4⟩
  rcases Nat.lt_or_gt_of_ne hjk with h5|h5
  ·left
   have:(j+1)*m≤k*m:=Nat.mul_le_mul_right m h5
   rw[Nat.add_mul] at this;omega
  ·right
   have:(k+1)*m≤j*m:=Nat.mul_le_mul_right m h5
   rw[Nat.add_mul] at this;omega
theorem Qfm {α:Type}{off:Nat}{ys xs:List α}(hl:off+ys.length≤xs.length) (i:Nat):(splice off ys xs)[i]? = if i<off∨off+ys.length≤i then xs[i]? else ys[i-off]? :=by
 unfold splice
 by_cases h1:i<off
 ·rw[if_pos (.inl h1),List.append_assoc,List.getElem?_append_left (by simp;omega),List.getElem?_take,if_pos h1]
 ·by_cases h2:off+ys.length≤i
  ·rw[if_pos (.inr h2),List.getElem?_append_right (by simp;omega),List.getElem?_drop]
   congr 1;simp;omega
  ·rw[if_neg (by omega),List.append_assoc,List.getElem?_append_right (by simp;omega),List.getElem?_append_left (by simp;omega)]
   congr 1;simp;omega
theorem Qc9 {α:Type}{off:Nat}{ys xs:List α}(hl:off+ys.length≤xs.length):(splice off ys xs).length=xs.length:=by
 unfold splice;simp;omega
theorem eStore_sound (h:Rel B s a w ρ){o:Oper}{t:TypeId}{ad x:Operand}(ho:o.op = .store t ad x) (hdst:o.dst=none){hh:Hint}{p:List Prop}{s':St}(hv:eStore P t ad x hh s=some (p,s')) (hp:AllP p):EOk P B s' a w o:=by
 have hx:=h.opd ad
 unfold eStore at hv
 split at hv
 ·rename_i i off ys he hy
  rw[he] at hx;simp only[relA] at hx
  obtain⟨b,hb,hau⟩:=hx
  obtain⟨hy1,hy2⟩:=Qc1 h hy (h.opd x)
  split at hv
  ·rename_i xs hobj
   split at hv
   ·rename_i hc
    cases hv
    simp only[Bool.and_eq_true,beq_iff_eq,decide_eq_true_eq] at hc
    obtain⟨⟨hi,hsz⟩,hle⟩:=hc
    obtain⟨b',cur,e,h1,h2,h3⟩:=h.heap.obj i _ hobj
    rw[hb] at h1;cases h1
    have hyl:=Qaj hy1
    have hxl:=Qaj h3
    simp only[Array.length_toList] at hyl hxl
    have hrun:=Qdq (P:=P) (off:=off) (v:=a.eval x) h2 hi (by omega) (by omega) hy2
    have hrun':(execOp a.eval o).run P w = .ok .skip (w.setRow b (splice off (a.eval x).cells.toList cur.toList).toArray):=by simp only[execOp,ho,hau,Sem.run_bind,hrun,Result.andThen_ok,Sem.run_pure]
    refine⟨undef,_,ρ,.inr ⟨hrun',rfl⟩,?_⟩
    rw[hdst]
    refine h.set i (.box xs) _ hobj rfl rfl rfl (by simp) (fun c hc hne=>setRow_other w b c _ (fun e=>hne (by rw[hb,e];rfl))) fun C' hC => ?_
    exact⟨b,_,e,hb,setRow_heap w b cur _ e _ h2,by simpa using Qf1 off (Qas hC _ _ h3) (Qas hC _ _ hy1)⟩
   ·cases hv
  ·cases hv
 ·rename_i i k m off ys he hy
  rw[he] at hx;simp only[relA] at hx
  obtain⟨b,n,cap,hb,hau⟩:=hx
  obtain⟨hy1,hy2⟩:=Qc1 h hy (h.opd x)
  split at hv
  ·rename_i m' rows n' r tsv hobj hts
   split at hv
   ·rename_i hc
    cases hv
    simp only[Bool.and_eq_true,beq_iff_eq,decide_eq_true_eq] at hc
    obtain⟨⟨⟨hi,hsz⟩,hle⟩,rfl⟩:=hc
    rcases h.heap.obj i _ hobj with⟨h1,_⟩|⟨b',cap',cur,e,h1,h2,h3,h4,h5,h6,h6c⟩
    ·subst h1;simp[AllP] at hp
    ·rw[hb] at h1;cases h1
     have hlt:k<rows.length:=(List.getElem?_eq_some_iff.1 hp).1
     have hrm:r.length=m:=row_in_len h6 hp
     have hmr:=mul_row (m:=m) hlt h3
     have hyl:=Qaj hy1
     simp only[Array.length_toList] at hyl
     have hya:ys=ts tsv:=Qe0 hts hy1
     have htl:tsv.length=ys.length:=by rw[hya];simp[ts]
     have hrun:=Qdq (P:=P) (off:=k*m+off) (v:=a.eval x) h2 hi (by omega) (by omega) hy2
     have hrun':(execOp a.eval o).run P w = .ok .skip (w.setRow b (splice (k*m+off) (a.eval x).cells.toList cur.toList).toArray):=by simp only[execOp,ho,hau,Sem.run_bind,hrun,Result.andThen_ok,Sem.run_pure]
     refine⟨undef,_,ρ,.inr ⟨hrun',rfl⟩,?_⟩
     rw[hdst]
     refine h.set i _ _ hobj rfl rfl rfl (by simp) (fun c hc hne=>setRow_other w b c _ (fun e=>hne (by rw[hb,e];exact Qah h6c))) fun C' hC => ?_
     refine .inr ⟨b,cap,_,e,by rw[hb];simp,setRow_heap w b cur _ e _ h2,by simpa using h3,h4,?_,?_,h6c⟩
     ·simp only[List.size_toArray];rw[Qc9 (by simp;omega)];simpa using h5
     ·have h7:=Qad hC m rows _ _ 0 (fun _ _ x=>x) h6
      have hsl:k*m+off+(a.eval x).cells.toList.length≤cur.toList.length:=by simp;omega
      refine repRows_set h7 (by rw[Qc9 (by omega)];exact hrm) hlt ?_ fun j hj c hc => ?_
      ·refine Qbd fun j t hj => ?_
       rw[Qfm (by omega)] at hj
       simp only[List.getElem?_toArray]
       rw[Qfm hsl]
       simp only[Array.length_toList]
       split at hj
       ·rename_i hji
        rw[if_pos (by omega)]
        obtain⟨c,h8,h9⟩:=Qa9 (Qax h7 hp).2 hj
        exact⟨c,by simpa using h8,h9⟩
       ·rename_i hji
        rw[if_neg (by omega)]
        rw[hya] at hy1
        obtain⟨c,h8,h9⟩:=Qaz (x := .t t) (j:=j-off) hy1 (by simp[ts,hj])
        exact⟨c,by rw[←h8];congr 1;omega,hy2 c (List.mem_of_getElem? h8),by simpa only[relA] using Qcf hC _ _ (by simpa only[relA] using h9)⟩
      ·simp only[List.getElem?_toArray]
       rw[Qfm hsl,if_pos (by simp only[Array.length_toList];omega)]
       simpa using hc
   ·cases hv
  ·cases hv
 ·cases hv
end Go.Ab
