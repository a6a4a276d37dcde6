import Derived.Test.YtjlkmdmaimednaaGreatAbCl
set_option linter.unusedVariables false
set_option linter.unusedSimpArgs false
namespace Go.Ab
open Go.Shelf Go.Proofs Go.RowKit Go.Lib
theorem rr_app {C:View}{m:Nat}{r1 r2:List (List T)}{a b:List Value}(h1:a.length=r1.length*m) (ha:repRows C m r1 (fun k=>a[k]?) 0) (hb:repRows C m r2 (fun k=>b[k]?) 0):
  repRows C m (r1++r2) (fun k=>(a++b)[k]?) 0:=
 Qbp (Qai ha fun j c hj hc=>by
   simp only[Nat.zero_add] at hc ⊢;rw[List.getElem?_append_left (by omega)];exact hc)
  (Qai hb fun j c hj hc=>by
   simp only[Nat.zero_add] at hc ⊢;rw[List.getElem?_append_right (by omega),←h1,Nat.add_sub_cancel_left];exact hc)
theorem rr_take {C:View}{m:Nat}{rows:List (List T)}{a:List Value}(i:Nat) (h:repRows C m rows (fun k=>a[k]?) 0):repRows C m (rows.take i) (fun k=>(a.take (i*m))[k]?) 0:=
 Qai (Qdl i h) fun j c hj hc=>by
  have:(rows.take i).length*m≤i*m:=Nat.mul_le_mul_right _ (by simp;omega)
  simp only[Nat.zero_add] at hc ⊢;rw[List.getElem?_take,if_pos (by omega)];exact hc
theorem rr_drop {C:View}{m:Nat}{rows:List (List T)}{a:List Value}(i:Nat) (h:repRows C m rows (fun k=>a[k]?) 0):repRows C m (rows.drop i) (fun k=>(a.drop (i*m))[k]?) 0:=
 Qai (Qdk i h) fun j c hj hc=>by
  simp only[Nat.zero_add] at hc ⊢;rw[List.getElem?_drop];exact hc
theorem cell_of {w:World}{g:Nat}{cc:Array Value}{t:TypeId}(h:w.heap[g]? = some (.cells cc t (0,0))) (q:Nat):w.cell? ⟨g,q,none⟩=cc[q]? :=by simp[World.cell?,h]
theorem froz_of {w:World}{g:Nat}{cc:Array Value}{t:TypeId}(h:w.heap[g]? = some (.cells cc t (0,0))) (q:Nat):w.frozen? ⟨g,q,none⟩=false:=by simp[World.frozen?,h]
theorem shape_of {w:World}{g:Nat}{cc:Array Value}{t:TypeId}(h:w.heap[g]? = some (.cells cc t (0,0))):w.shape? g=some (t,cc.size):=by simp[World.shape?,h]
theorem Qat {g:Nat}:∀(vs:List Value)(o:Nat){w:World}(k:Nat),k≠g→(w.setCells g o vs).heap[k]? = w.heap[k]?
 |[],_,_,_,_=>rfl
 |v::r,o,w,k,hk=>by
  rw[World.setCells,Qat r (o+1) k hk]
  exact Below.heap_setCell w ⟨g,o,none⟩ v k hk
theorem Qao (g:Nat):∀(vs:List Value)(o:Nat)(w:World),(w.setCells g o vs).os=w.os∧(w.setCells g o vs).tape=w.tape∧(w.setCells g o vs).output=w.output∧(w.setCells g o vs).heap.size=w.heap.size
 |[],_,_=>⟨rfl,rfl,rfl,rfl⟩
 |v::r,o,w=>by
  obtain⟨h1,h2,h3,h4⟩:=Qao g r (o+1) (w.setCell ⟨g,o,none⟩ v)
  rw[World.setCells]
  exact⟨h1,h2,h3,by rw[h4];simp[World.setCell]⟩
theorem cell_set {g:Nat}{e:TypeId}{w:World}{cur:Array Value}(h:w.heap[g]? = some (.cells cur e (0,0))) (o:Nat) (v:Value):(w.setCell ⟨g,o,none⟩ v).heap[g]? = some (.cells (cur.setIfInBounds o v) e (0,0)):=by
 simp[World.setCell,Array.getElem?_modify,h]
theorem Qaq {g:Nat}{e:TypeId}:∀(vs:List Value)(o:Nat)(w:World)(cur:Array Value),w.heap[g]? = some (.cells cur e (0,0))→o+vs.length≤cur.size→
  ∃cur',(w.setCells g o vs).heap[g]? = some (.cells cur' e (0,0))∧cur'.size=cur.size∧∀k,cur'[k]? = if o≤k∧k<o+vs.length then vs[k-o]? else cur[k]?
 |[],o,w,cur,h,_=>⟨cur,h,rfl,fun k=>by rw[if_neg (by simp)]⟩
 |v::r,o,w,cur,h,hl=>by
  simp only[List.length_cons] at hl
  obtain⟨cur',h3,h4,h5⟩:=Qaq r (o+1) (w.setCell ⟨g,o,none⟩ v) _ (cell_set h o v) (by simp;omega)
  refine⟨cur',h3,by rw[h4];simp,fun k => ?_⟩
  rw[h5 k,List.length_cons]
  by_cases hin:o+1≤k∧k<o+1+r.length
  ·rw[if_pos hin,if_pos ⟨by omega,by omega⟩,show k-o=(k-(o+1))+1 by omega];rfl
  ·rw[if_neg hin,Array.getElem?_setIfInBounds]
   by_cases hk:o=k
   ·subst hk
    rw[if_pos rfl,if_pos (by omega),if_pos ⟨Nat.le_refl _,by omega⟩,Nat.sub_self];rfl
   ·rw[if_neg hk,if_neg (by omega)]
theorem Qd4 {P:Program}{hid:Nat→Prop}{σ:Nat→Value}{w w':World}{objs:List (Nat×O)}{size i cap g:Nat}{e:TypeId}{cur:Array Value}{rows:List (List T)}{R:A→List (Nat×O)→Prop}{ev:Ending}
  (hh:Heap hid σ (ofO objs) w) (hR:R (A.ref i) [(i,O.row size rows)]) (hev:ev = .returned (.slice (some ⟨g,0,none⟩) rows.length cap)) (hg:own σ (ofO objs) g∨w.heap.size≤g) (hcell:w'.heap[g]? = some (.cells cur e (0,0))) (h1:rows.length≤cap) (h2:cap≤maxLen) (h3:cur.size=cap*size) (h4:0<cap)
  (hr:∀C',(view hid (own σ (ofO objs)) w).le C'→repRows C' size rows (fun k=>cur[k]?) 0)
  (hos:w'.os=w.os) (htape:w'.tape=w.tape) (hout:w'.output=w.output) (hsize:w.heap.size≤w'.heap.size) (hfar:∀b,b≠g→b<w.heap.size→w'.heap[b]? = w.heap[b]?) (hi:loose i=true):
  ∃r os' τ u,R r os'∧ev = .returned u∧Heap hid τ (ofO os') w'∧relA τ (view hid (own τ (ofO os')) w') r u∧Frm w (own σ (ofO objs)) (own τ (ofO os')) w'∧∀q,(ofO objs q).isSome=true→loose q=false→τ q=σ q:=by
 have lk:∀q o,ofO [(i,O.row size rows)] q=some o→q=i∧o = .row size rows:=by
  intro q o h
  unfold ofO at h
  simp only[List.lookup_cons] at h
  cases hqi:(q==i) with
  |true=>rw[hqi] at h;exact⟨by simpa using hqi,by simpa using h.symm⟩
  |false=>rw[hqi] at h;simp at h
 have own':∀b,own (fun q=>if q=i then .slice (some ⟨g,0,none⟩) rows.length cap else σ q) (ofO [(i,O.row size rows)]) b→b=g:=by
  rintro b ⟨q,hq,hb⟩
  obtain⟨o,ho⟩:=Option.isSome_iff_exists.1 hq
  obtain⟨rfl,_⟩:=lk q o ho
  simp only[if_true] at hb
  rw[Qah h4] at hb;cases hb;rfl
 have hle:(view hid (own σ (ofO objs)) w).le (view hid (own (fun q=>if q=i then .slice (some ⟨g,0,none⟩) rows.length cap else σ q) (ofO [(i,O.row size rows)])) w'):=by
  intro b o c hc
  rw[Qae] at hc ⊢
  have hlt:b<w.heap.size:=World.block_lt_of_cell? w _ hc.2.2
  have hne:b≠g:=fun e=>by subst e;rcases hg with h|h;exact hc.1 h;omega
  refine⟨fun ho=>hne (own' b ho),hc.2.1,by rw[World.cell?_of_block (w:=w) (hfar b hne hlt)];exact hc.2.2⟩
 refine⟨_,_,fun q=>if q=i then .slice (some ⟨g,0,none⟩) rows.length cap else σ q,_,hR,hev,⟨?_,?_,?_,?_⟩,by simp only[relA,if_true],⟨hos,htape,hout,hsize,fun b hb hn => ?_,fun b hb => ?_⟩,fun q hq hl => ?_⟩
 ·intro q o hq
  obtain⟨rfl,rfl⟩:=lk q o hq
  simp only[relO,if_true]
  exact .inr ⟨g,cap,cur,e,rfl,hcell,h1,h2,h3,hr _ hle,h4⟩
 ·intro q q' b hq hq' _ _
  obtain⟨o,ho⟩:=Option.isSome_iff_exists.1 hq
  obtain⟨o',ho'⟩:=Option.isSome_iff_exists.1 hq'
  rw[(lk q o ho).1,(lk q' o' ho').1]
 ·intro b hb h
  have:=own' b hb;subst this
  rcases hg with hg|hg
  ·exact hh.nhid _ hg h
  ·have:=hh.hlt _ h;omega
 ·intro b hb;exact Nat.lt_of_lt_of_le (hh.hlt b hb) hsize
 ·by_cases hb':b=g
  ·subst hb';rcases hg with hg|hg
   ·exact absurd hg hn
   ·omega
  ·exact hfar b hb' hb
 ·have:=own' b hb;subst this;exact hg
 ·have:q≠i:=fun e=>by subst e;rw[hi] at hl;cases hl
  simp only[this,if_false]
end Go.Ab
