import Derived.Test.YtjlkmdmaimednaaGreatAbG
set_option linter.unusedVariables false
set_option linter.unusedSimpArgs false
namespace Go.Ab
variable {P:Program} {B:Base} {s:St} {a:Act} {w:World} {ρ:Nat→Value}
theorem chunk_get {α:Type}(m:Nat):∀(n:Nat)(l:List α)(k:Nat)(r:List α),l.length=n*m→(chunk m n l)[k]? = some r→k<n∧r.length=m∧∀j,j<m→r[j]? = l[k*m+j]?
 |0,l,k,r,_,h=>by simp[chunk] at h
 |n+1,l,0,r,hl,h=>by
  simp only[chunk,List.getElem?_cons_zero,Option.some.injEq] at h
  subst h
  rw[Nat.add_mul] at hl
  refine⟨by omega,by simp;omega,fun j hj => ?_⟩
  rw[List.getElem?_take,if_pos hj];congr 1;omega
 |n+1,l,k+1,r,hl,h=>by
  simp only[chunk,List.getElem?_cons_succ] at h
  have hl':=hl
  rw[Nat.add_mul] at hl'
  obtain⟨h1,h2,h3⟩:=chunk_get m n (l.drop m) k r (by simp;omega) h
  refine⟨by omega,h2,fun j hj => ?_⟩
  rw[h3 j hj,List.getElem?_drop];congr 1
  rw[Nat.add_mul];omega
theorem Qbr {α:Type}(m:Nat):∀(n:Nat)(l:List α),(chunk m n l).length=n
 |0,_=>rfl
 |n+1,l=>by simp[chunk,Qbr m n]
theorem repRows_chunk {C:View}{m n:Nat}{tsv:List T}{us:List Value}(hl:tsv.length=n*m) (h:relAs ρ C (ts tsv) us) (h1:∀c∈us,c.oneCell'=true) (V:Nat→Option Value) (hV:∀(j:Nat) v,us[j]? = some v→V j=some v):
  repRows C m (chunk m n tsv) V 0:=by
 refine Qbn fun k r hk => ?_
 obtain⟨h2,h3,h4⟩:=chunk_get m n tsv k r hl hk
 refine⟨h3,Qbd fun j t hj => ?_⟩
 have hjm:j<m:=by rw[←h3];exact(List.getElem?_eq_some_iff.1 hj).1
 rw[h4 j hjm] at hj
 obtain⟨c,h5,h6⟩:=Qaz (x := .t t) (j:=k*m+j) h (by simp[ts,hj])
 exact⟨c,by rw[Nat.zero_add];exact hV _ _ h5,h1 c (List.mem_of_getElem? h5),by simpa only[relA] using h6⟩
theorem fillL_len {α:Type}(place:Nat→Option (Nat×Nat)):∀(ps:List (Nat×List α)) (cells zs:List α),fillL place cells ps=some zs→zs.length=cells.length
 |[],cells,zs,h=>by simp only[fillL,Option.some.injEq] at h;rw[h]
 |(i,vs)::ps,cells,zs,h=>by
  simp only[fillL] at h
  split at h
  ·cases h
  ·rename_i off size hp
   split at h
   ·cases h
   ·rename_i hc
    rw[fillL_len place ps _ zs h,Qc9 (by omega)]
theorem toTs_len:∀{xs:List A}{l:List T},toTs xs=some l→l.length=xs.length
 |[],l,h=>by simp[toTs] at h;subst h;rfl
 |x::xs,l,h=>by
  simp only[toTs] at h
  split at h
  ·rename_i t l' ht hl;cases h;simp[toTs_len hl]
  ·cases h
theorem fillL_all {α:Type}(q:α→Prop) (place:Nat→Option (Nat×Nat)):∀(ps:List (Nat×List α)) (cells zs:List α),(∀c∈cells,q c)→(∀p∈ps,∀c∈p.2,q c)→fillL place cells ps=some zs→∀c∈zs,q c
 |[],cells,zs,h1,_,h=>by simp only[fillL,Option.some.injEq] at h;rw[←h];exact h1
 |(i,vs)::ps,cells,zs,h1,h2,h=>by
  simp only[fillL] at h
  split at h
  ·cases h
  ·split at h
   ·cases h
   ·refine fillL_all q place ps _ zs (fun c hc => ?_) (fun p hp=>h2 p (by simp[hp])) h
    unfold splice at hc
    rcases List.mem_append.1 hc with hc|hc
    ·rcases List.mem_append.1 hc with hc|hc
     ·exact h1 c (List.mem_of_mem_take hc)
     ·exact h2 (i,vs) (by simp) c hc
    ·exact h1 c (List.mem_of_mem_drop hc)
theorem Rel.alloc_row (h:Rel B s a w ρ){d k:Nat}(hd:d<B.n) (hk:k∉s.base){w1:World}(hw:w1=w∨w1=w.drew){m cap:Nat}{rows:List (List T)}{cs:Array Value}(e:TypeId) (hlen:rows.length≤cap) (hcap:cap≤maxLen) (hcs:cs.size=cap*m)
  (hx:∀C',(view B.hid (own ρ s.objs) w).le C'→repRows C' m rows (fun i=>cs[i]?) 0) (jo:Option Nat):
  Rel B ((s.mv jo k (.row m rows)).put d (.ref k)) (a.put (some d) (.slice (some ⟨w.heap.size,0,none⟩) rows.length cap)) (w1.alloc (.cells cs e)) (fun i=>if i=k then .slice (some ⟨w.heap.size,0,none⟩) rows.length cap else ρ i):=by
 have hh:w1.heap=w.heap:=by rcases hw with rfl|rfl<;>rfl
 have hsz:w1.heap.size=w.heap.size:=by rw[hh]
 have h1:=h.mv (w':=w1.alloc (.cells cs e)) jo k (.row m rows) (.slice (some ⟨w.heap.size,0,none⟩) rows.length cap) hk (by rcases hw with rfl|rfl<;>rfl) (by rcases hw with rfl|rfl<;>rfl) (by rcases hw with rfl|rfl<;>rfl) (by simp[hsz])
  (fun b hb _=>by rw[heap_alloc_old w1 _ b (by omega),hh]) (fun b hb => .inl (by simp[blockOf] at hb;omega)) (fun C' hC=>by
   by_cases h0:cap=0
   ·subst h0
    have:rows=[]:=List.eq_nil_of_length_eq_zero (by omega)
    subst this
    exact .inl ⟨rfl,.inr ⟨_,rfl⟩⟩
   ·exact .inr ⟨w.heap.size,cap,cs,e,rfl,by rw[←hsz];exact heap_alloc_new w1 _,hlen,hcap,hcs,hx C' hC,by omega⟩)
 refine h1.put hd ?_
 simp only[relA,if_true]
theorem Qfg (h:Rel B s a w ρ){o:Oper}{t:TypeId}{len:Nat}{parts:Array (Nat×Operand)}(ho:o.op = .buildSlice t len parts){hh:Hint}{p:List Prop}{s':St}(hv:eBuildSlice P t len parts.toList o.dst hh s=some (p,s')) (hd:∀d,o.dst=some d→d<B.n):EOk P B s' a w o:=by
 unfold eBuildSlice at hv
 split at hv
 ·rename_i d e ps hdst hu hps
  split at hv
  ·rename_i i hi
   split at hv
   ·rename_i z l hz hl
    split at hv
    ·rename_i hc
     cases hv
     simp only[Bool.and_eq_true,decide_eq_true_eq] at hc
     obtain⟨⟨⟨⟨hid,hpos⟩,hsmall⟩,hzone⟩,hzsz⟩:=hc
     obtain⟨zs,hf,hts⟩:=Option.bind_eq_some_iff.1 hl
     obtain⟨h1,h2,h3⟩:=Qea h hps
     have hzl:zs.length=len*i.size:=by rw[fillL_len _ _ _ _ hf];simp
     have hdead:∀zc:List Value,zc.length=len*i.size→relAs ρ (view B.hid (own ρ s.objs) w) (List.replicate (len*i.size) A.dead) zc:=fun zc hzc=>Qdr (by simp[hzc]) fun j x u hx _=>by
      rw[List.getElem?_replicate] at hx
      split at hx
      ·cases hx;simp only[relA]
      ·cases hx
     by_cases hlen:len*i.size=0
     ·have hlen0:len=0:=by
       rcases Nat.mul_eq_zero.1 hlen with h0|h0
       ·exact h0
       ·omega
      obtain⟨vs,h4,h5⟩:=Qe5 _ ps _ _ zs [] h1 h2 (hdead [] (by simp[hlen])) hf
      have hfill:=Qdy (fun j=>some (j*i.size,i.size)) (parts.toList.map fun p=>(p.1,a.eval p.2)) #[] vs (by simpa[Function.comp_def] using h4)
      have hvl:vs=[]:=by have:=Qaj h5;rw[hzl,hlen] at this;simpa using this
      subst hvl
      have hrun:(execOp a.eval o).run P w = .ok (.value (.slice (some ⟨w.heap.size,0,none⟩) (chunk i.size len l).length len)) (w.alloc (.cells #[] e)):=by
       simp only[execOp,ho,Instr.buildSlice]
       simp[run_underlying hu,sizeOf,typeInfo,hi,hlen0,Qbr]
       rw[show Array.map (fun _:Nat=>(default:Value)) (Array.range 0) = #[] by rw[←Array.toList_inj];simp,hfill]
       simp[newRow]
      have hrel:=h.alloc_row (hd d hdst) (Qan hid) (.inl rfl) (m:=i.size) (cap:=len) (rows:=chunk i.size len l) (cs := #[]) e (by rw[Qbr];exact Nat.le_refl _) (by rw[hlen0];exact Nat.zero_le _) (by simp[hlen]) (fun C' hC=>by rw[hlen0];simp only[chunk,repRows]) none
      rw[←hdst] at hrel
      exact⟨_,_,_,.inl hrun,hrel⟩
     ·let za:Array Value:=(Array.range (len*i.size)).map (z.cells[· % z.cells.size]!)
      have hzc:za.toList.length=len*i.size:=by simp[za]
      obtain⟨vs,h4,h5⟩:=Qe5 _ ps _ _ zs za.toList h1 h2 (hdead _ hzc) hf
      have hza:zs=ts l:=Qe0 hts h5
      have hvl:=Qaj h5
      have hfill:=Qdy (fun j=>some (j*i.size,i.size)) (parts.toList.map fun p=>(p.1,a.eval p.2)) za vs (by simpa[Function.comp_def] using h4)
      have hone:∀c∈vs,c.oneCell'=true:=by
       refine fillL_all _ _ _ _ vs (fun c hcm => ?_) (fun p hp c hcm => ?_) h4
       ·simp only[za,Array.toList_map,List.mem_map] at hcm
        obtain⟨j,_,rfl⟩:=hcm
        have hsz:z.cells.size=i.size:=by simpa using hzsz
        have hjz:j%z.cells.size<z.cells.size:=Nat.mod_lt _ (by omega)
        rw[getElem!_pos z.cells (j%z.cells.size) hjz]
        exact List.all_eq_true.1 hzone _ (by simp)
       ·obtain⟨q,hq,rfl⟩:=List.mem_map.1 hp
        exact h3 q hq c hcm
      have hll:l.length=len*i.size:=by rw[toTs_len hts,hzl]
      rw[hza] at h5
      have hrun:(execOp a.eval o).run P w = .ok (.value (.slice (some ⟨w.heap.size,0,none⟩) (chunk i.size len l).length len)) (w.alloc (.cells vs.toArray e)):=by
       have hfill':Instr.fill (fun j=>some (j*i.size,i.size)) za (parts.toList.map fun p=>(p.1,a.eval p.2))=some vs.toArray:=hfill
       simp only[execOp,ho,Instr.buildSlice]
       have h16:¬ (16777216<len*i.size):=by omega
       simp[run_underlying hu,sizeOf,typeInfo,hi,hlen,zeroValue,hz,h16,Qbr]
       simp only[za] at hfill'
       simp[hfill',newRow]
      have hrel:=h.alloc_row (hd d hdst) (Qan hid) (.inl rfl) (m:=i.size) (cap:=len) (rows:=chunk i.size len l) (cs:=vs.toArray) e (by rw[Qbr];exact Nat.le_refl _)
       (by
        have:len≤len*i.size:=Nat.le_mul_of_pos_right _ hpos
        simp only[maxLen];omega)
       (by simp;rw[hvl,hzl]) (fun C' hC=>repRows_chunk (ρ:=ρ) (us:=vs) hll (Qas hC _ _ h5) hone _ fun j v hj=>by simpa using hj) none
      rw[←hdst] at hrel
      exact⟨_,_,_,.inl hrun,hrel⟩
    ·cases hv
   ·cases hv
  ·cases hv
 ·cases hv
theorem rowsOf_spec (h:Rel B s a w ρ){x:Operand}{mo:Option Nat}{new:List (List T)}{m:Nat}(hm:mo=none∨mo=some m) (hx:rowsOf s (ev s x)=some (mo,new)):
  ∃(base:Option Addr) (cap:Nat) (news:List Value),a.eval x = .slice base new.length cap∧news.length=new.length*m∧repRows (view B.hid (own ρ s.objs) w) m new (fun i=>news[i]?) 0∧(∀c∈news,c.oneCell'=true)∧
   ((base=none∧new=[])∨∃ad,base=some ad∧∀(j:Nat) v,news[j]? = some v→w.cell? (ad.add j)=some v):=by
 have hr:=h.opd x
 have flat:∀(rows:List (List T)) (V:Nat→Option Value) (off:Nat),repRows (view B.hid (own ρ s.objs) w) m rows V off→
   ∃news:List Value,news.length=rows.length*m∧repRows (view B.hid (own ρ s.objs) w) m rows (fun i=>news[i]?) 0∧(∀c∈news,c.oneCell'=true)∧∀(j:Nat) v,news[j]? = some v→V (off+j)=some v:=by
  intro rows
  induction rows with
  |nil=>intro V off _;exact⟨[],by simp,by simp only[repRows],by simp,by simp⟩
  |cons r rows ih=>
   intro V off hrr
   simp only[repRows] at hrr
   obtain⟨hlen,hrow,hrest⟩:=hrr
   obtain⟨news,h1,h2,h3,h4⟩:=ih V (off+m) hrest
   have row:∀(r:List T)(off:Nat),repRow (view B.hid (own ρ s.objs) w) r V off→∃us:List Value,us.length=r.length∧repRow (view B.hid (own ρ s.objs) w) r (fun i=>us[i]?) 0∧(∀c∈us,c.oneCell'=true)∧∀(j:Nat) v,us[j]? = some v→V (off+j)=some v:=by
    intro r
    induction r with
    |nil=>intro off _;exact⟨[],by simp,by simp only[repRow],by simp,by simp⟩
    |cons t r ih2=>
     intro off hrr
     simp only[repRow] at hrr
     obtain⟨⟨c,h5,h6,h7⟩,h8⟩:=hrr
     obtain⟨us,h9,h10,h11,h12⟩:=ih2 (off+1) h8
     refine⟨c::us,by simp[h9],?_,?_,?_⟩
     ·simp only[repRow]
      refine⟨⟨c,by simp,h6,h7⟩,Qbd fun j t' hj => ?_⟩
      obtain⟨c',h13,h14⟩:=Qa9 h10 hj
      exact⟨c',by simpa[Nat.add_comm 1 j] using h13,h14⟩
     ·intro c' hc'
      rcases List.mem_cons.1 hc' with rfl|hc'
      ·exact h6
      ·exact h11 c' hc'
     ·intro j v hj
      match j,hj with
      |0,hj=>simp at hj;subst hj;simpa using h5
      |j+1,hj=>have:=h12 j v (by simpa using hj);rwa [Nat.add_assoc,Nat.add_comm 1 j] at this
   obtain⟨us,h5,h6,h7,h8⟩:=row r off hrow
   refine⟨us++news,by simp[h1,h5,hlen,Nat.add_mul,Nat.add_comm],?_,?_,?_⟩
   ·simp only[repRows]
    refine⟨hlen,Qa1 (View.le.refl _) r (fun i=>us[i]?) _ 0 (fun j c (hj:us[j]? = some c) => ?_) h6,Qbn fun k r' hk => ?_⟩
    ·show(us++news)[j]? = some c
     rw[List.getElem?_append_left (List.getElem?_eq_some_iff.1 hj).1];exact hj
    ·obtain⟨h9,h10⟩:=Qax h2 hk
     refine⟨h9,Qbd fun j t hj => ?_⟩
     obtain⟨c,h11,h12⟩:=Qa9 h10 hj
     refine⟨c,?_,h12⟩
     rw[List.getElem?_append_right (by omega),←h11];congr 1;omega
   ·intro c hc
    rcases List.mem_append.1 hc with hc|hc
    ·exact h7 c hc
    ·exact h3 c hc
   ·intro j v hj
    by_cases hju:j<us.length
    ·rw[List.getElem?_append_left hju] at hj;exact h8 j v hj
    ·rw[List.getElem?_append_right (by omega)] at hj
     have:=h4 _ v hj
     rw[←this];congr 1;omega
 unfold rowsOf at hx
 split at hx
 ·rename_i j he
  rw[he] at hr;simp only[relA] at hr
  split at hx
  ·rename_i m' rows ho
   cases hx
   have hm:m'=m:=by rcases hm with hm|hm<;>simp at hm;exact hm
   subst hm
   rcases h.heap.obj j _ ho with⟨h1,h2|⟨ad,h2⟩⟩|⟨b,cap,cur,e,h1,h2,h3,h4,h5,h6,_⟩
   ·subst h1
    exact⟨none,0,[],by rw[hr,h2];rfl,by simp,by simp only[repRows],by simp,.inl ⟨rfl,rfl⟩⟩
   ·subst h1
    exact⟨some ad,0,[],by rw[hr,h2];rfl,by simp,by simp only[repRows],by simp,.inr ⟨ad,rfl,fun j v hj=>by simp at hj⟩⟩
   ·obtain⟨news,h7,h8,h9,h10⟩:=flat _ _ 0 h6
    refine⟨some ⟨b,0,none⟩,cap,news,by rw[hr,h1],h7,h8,h9,.inr ⟨_,rfl,fun j v hj => ?_⟩⟩
    rw[Addr.add_mid,cell_of_row w b (0+j) cur e (0,0) h2]
    exact h10 j v hj
  ·cases hx
 ·rename_i m' rows he
  rw[he] at hr;simp only[relA,rep] at hr
  cases hx
  have hm:m'=m:=by rcases hm with hm|hm<;>simp at hm;exact hm
  subst hm
  rcases hr with⟨h1,h2⟩|⟨b,off,cap,h1,h2,h3,h4⟩
  ·subst h1
   rcases h2 with h2|⟨ad,cap,h2,_⟩
   ·exact⟨none,0,[],by rw[h2];rfl,by simp,by simp only[repRows],by simp,.inl ⟨rfl,rfl⟩⟩
   ·exact⟨some ad,cap,[],by rw[h2];rfl,by simp,by simp only[repRows],by simp,.inr ⟨ad,rfl,fun j v hj=>by simp at hj⟩⟩
  ·obtain⟨news,h7,h8,h9,h10⟩:=flat _ _ _ h4
   refine⟨some ⟨b,off,none⟩,cap,news,h1,h7,h8,h9,.inr ⟨_,rfl,fun j v hj => ?_⟩⟩
   rw[Addr.add_mid]
   exact(Qae.1 (h10 j v hj)).2.2
 ·rename_i m' rows he
  rw[he] at hr;simp only[relA,rep] at hr
  cases hx
  have hm:m'=m:=by rcases hm with hm|hm<;>simp at hm;exact hm
  subst hm
  rcases hr with⟨h1,ad,cap,h2,_⟩|⟨b,off,cap,h1,h2,h3,h4⟩
  ·subst h1
   exact⟨some ad,cap,[],by rw[h2];rfl,by simp,by simp only[repRows],by simp,.inr ⟨ad,rfl,fun j v hj=>by simp at hj⟩⟩
  obtain⟨news,h7,h8,h9,h10⟩:=flat _ _ _ h4
  refine⟨some ⟨b,off,none⟩,cap,news,h1,h7,h8,h9,.inr ⟨_,rfl,fun j v hj => ?_⟩⟩
  rw[Addr.add_mid]
  exact(Qae.1 (h10 j v hj)).2.2
 ·rename_i he
  rw[he] at hr;simp only[relA,rep] at hr
  cases hx
  exact⟨none,0,[],by rw[hr];rfl,by simp,by simp only[repRows],by simp,.inl ⟨rfl,rfl⟩⟩
 ·cases hx
theorem append_room (w:World) (t ty e e':TypeId) (i:TypeInfo) (ht:P.underlying t=some (.slice e)) (hi:P.info? e=some i)
  (g sLen sCap:Nat) (cur:Array Value) (hg:w.heap[g]? = some (.cells cur e' (0,0)))
  (ad:Addr) (m c:Nat) (news:List Value) (hl:news.length=m*i.size) (hnews:∀j u,news[j]? = some u→w.cell? (ad.add j)=some u) (h1:∀u∈news,u.oneCell'=true)
  (hroom:sLen+m≤sCap) (hfit:sLen*i.size+news.length≤cur.size):
  (Builtin.append_ #[t,t] ty #[.slice (some ⟨g,0,none⟩) sLen sCap,.slice (some ad) m c]).run P w=
   .ok (.slice (some ⟨g,0,none⟩) (sLen+m) sCap) (w.setRow g (cur.toList.take (sLen*i.size)++news++cur.toList.drop (sLen*i.size+news.length)).toArray):=by
 have hf:=run_firstCells_some (P:=P) w i.size m ad m c news hl hnews
 have hst:=run_storeCells_at (P:=P) g (sLen*i.size) e' news 0 cur w hg (by simpa using hfit) h1
 simp only[Nat.add_zero] at hst
 simp[Builtin.append_,run_underlying ht,sizeOf,typeInfo,hi,Builtin.lenOf,hroom,hf,Addr.add_mid,hst]
theorem Qc5 (w:World) (t ty e:TypeId) (i:TypeInfo) (ht:P.underlying t=some (.slice e)) (hi:P.info? e=some i) (base:Option Addr) (sLen sCap c:Nat) (hc:sLen≤sCap):
  (Builtin.append_ #[t,t] ty #[.slice base sLen sCap,.slice none 0 c]).run P w = .ok (.slice base sLen sCap) w:=by
 cases base<;>simp[Builtin.append_,run_underlying ht,sizeOf,typeInfo,hi,Builtin.lenOf,Builtin.firstCells,hc,storeCells]
theorem Qbp {C:View}{m:Nat}:∀{xs ys:List (List T)}{V:Nat→Option Value}{off:Nat},repRows C m xs V off→repRows C m ys V (off+xs.length*m)→repRows C m (xs++ys) V off
 |[],ys,V,off,_,h2=>by simpa using h2
 |x::xs,ys,V,off,h1,h2=>by
  simp only[repRows,List.cons_append] at h1 ⊢
  refine⟨h1.1,h1.2.1,Qbp h1.2.2 ?_⟩
  rw[List.length_cons,Nat.add_mul] at h2
  rw[show off+m+xs.length*m=off+(xs.length*m+1*m) by omega];exact h2
theorem Qai {C:View}{m:Nat}{rows:List (List T)}{V W:Nat→Option Value}{off off':Nat}(h:repRows C m rows V off) (hV:∀j c,j<rows.length*m→V (off+j)=some c→W (off'+j)=some c):repRows C m rows W off':=
 Qbn fun k r hk=>by
  obtain⟨h1,h2⟩:=Qax h hk
  refine⟨h1,Qbd fun j t hj => ?_⟩
  obtain⟨c,h3,h4⟩:=Qa9 h2 hj
  have hkl:k<rows.length:=(List.getElem?_eq_some_iff.1 hk).1
  have hjm:j<m:=by rw[←h1];exact(List.getElem?_eq_some_iff.1 hj).1
  have:=mul_row (m:=m) hkl (Nat.le_refl _)
  refine⟨c,?_,h4⟩
  rw[Nat.add_assoc]
  exact hV _ c (by omega) (by rw[←h3];congr 1;omega)
theorem eAppend_sound (h:Rel B s a w ρ){o:Oper}{t t2:TypeId}{sx x:Operand}{args:Array Operand}{tys:Array TypeId}(ho:o.op = .call { callee := .builtin .append,args:=args,argTypes:=tys }) (hargs:args = #[sx,x]) (htys:tys = #[t,t2])
  {hh:Hint} {p:List Prop} {s':St} (hv:eAppend P t t2 sx x o.dst hh s=some (p,s')) (hp:AllP p) (hd:∀d,o.dst=some d→d<B.n):EOk P B s' a w o:=by
 subst hargs;subst htys
 have hs:=h.opd sx
 have hexec:∀u w',(Builtin.append_ #[t,t2] o.type #[a.eval sx,a.eval x]).run P w = .ok u w'→(execOp a.eval o).run P w = .ok (.value u) w':=fun u w' hr=>by
  simp[execOp,ho,resolve,invoke,builtin,hr]
 unfold eAppend at hv
 split at hv
 ·rename_i d e hdst hu
  split at hv
  ·rename_i i m2 new hi hrows
   split at hv
   ·rename_i hc
    simp only[Bool.and_eq_true,beq_iff_eq,decide_eq_true_eq,Bool.or_eq_true] at hc
    obtain⟨⟨⟨⟨rfl,hzs⟩,hpos⟩,hm2⟩,hid⟩:=hc
    obtain⟨base,cap,news,hx,hnl,hnr,hn1,hbase⟩:=rowsOf_spec h hm2 hrows
    split at hv
    ·rename_i z hz he
     split at hv
     ·rename_i hzc
      have hzc:z.cells.size=i.size:=by simpa using hzc
      cases hv
      obtain⟨hp1,hp2⟩:=hp
      rw[he] at hs;simp only[relA,rep] at hs
      by_cases hn0:new.length=0
      ·have hnil:new=[]:=List.eq_nil_of_length_eq_zero hn0
       subst hnil
       have hrun:(Builtin.append_ #[t,t] o.type #[a.eval sx,a.eval x]).run P w = .ok (.slice none 0 0) w:=by
        rw[hs,hx]
        rcases hbase with⟨rfl,_⟩|⟨ad,rfl,hcell⟩
        ·exact Qc5 w t _ e i hu hi none 0 0 cap (Nat.le_refl _)
        ·simp[Builtin.append_,run_underlying hu,sizeOf,typeInfo,hi,Builtin.lenOf,Builtin.firstCells,loadCells,loadCellsFrom]
       have h1:=h.mv (w':=w) none (newId hh d) (.row i.size []) (.slice none 0 0) (Qan hid) rfl rfl rfl (Nat.le_refl _) (fun _ _ _=>rfl) (fun b hb=>by simp[blockOf] at hb) (fun C' _ => .inl ⟨rfl,Qgi⟩)
       have hrel:=h1.put (x := .ref (newId hh d)) (u := .slice none 0 0) (hd d hdst) (by simp only[relA,if_true])
       rw[←hdst] at hrel
       exact⟨_,_,_,.inl (hexec _ _ hrun),hrel⟩
      ·rcases hbase with⟨_,h0⟩|⟨ad,rfl,hcell⟩
       ·exact absurd (by rw[h0];rfl) hn0
       ·have hrun:=run_append_nil (P:=P) w t o.type e i z hu hi hz ad new.length cap news hnl hcell (by omega) (by simp only[maxLen] at hp1;omega) (by omega)
        rw[←hx,←hs] at hrun
        have hrel:=h.alloc_row (hd d hdst) (Qan hid) (w1:=w.drew) (.inr rfl) (m:=i.size) (cap:=grownCap w new.length 0 e) (rows:=new)
         (cs:=news.toArray++Builtin.zeroCells z.cells (grownCap w new.length 0 e-new.length)) e (grownCap_ge _ _ _ _) (grownCap_le_maxLen _ _ _ _ hp1)
         (by
          have:=grownCap_ge w new.length 0 e
          simp only[Array.size_append,List.size_toArray,size_zeroCells,hzc,hnl,←Nat.add_mul];congr 1;omega)
         (fun C' hC=>Qad hC _ _ _ _ 0 (fun j c hj=>by
          have hlt:=(List.getElem?_eq_some_iff.1 hj).1
          rw[Array.getElem?_append_left (by simpa using hlt)];simpa using hj) hnr) none
        rw[←hdst] at hrel
        exact⟨_,_,_,.inl (hexec _ _ hrun),hrel⟩
     ·cases hv
    ·rename_i z j hz he
     rw[he] at hs;simp only[relA] at hs
     split at hv
     ·rename_i m old hobj
      split at hv
      ·rename_i hzc
       simp only[Bool.and_eq_true,beq_iff_eq] at hzc
       obtain⟨hzc,rfl⟩:=hzc
       cases hv
       obtain⟨hp1,hp2⟩:=hp
       have hnlen:(old++new).length=old.length+new.length:=by simp
       rcases h.heap.obj j _ hobj with⟨h1,hf⟩|⟨b,capo,cur,e',h1,h2,h3,h4,h5,h6,h6c⟩
       ·subst h1
        simp only[List.length_nil,Nat.zero_add] at hp1 hp2
        by_cases hn0:new.length=0
        ·have hnil:new=[]:=List.eq_nil_of_length_eq_zero hn0
         subst hnil
         have hrun:(Builtin.append_ #[t,t] o.type #[a.eval sx,a.eval x]).run P w = .ok (ρ j) w:=by
          rw[hs,hx]
          rcases hf with h2|⟨ad0,h2⟩
          ·rw[h2]
           rcases hbase with⟨rfl,_⟩|⟨ad,rfl,hcell⟩
           ·exact Qc5 w t _ e i hu hi none 0 0 cap (Nat.le_refl _)
           ·simp[Builtin.append_,run_underlying hu,sizeOf,typeInfo,hi,Builtin.lenOf,Builtin.firstCells,loadCells,loadCellsFrom]
          ·rw[h2]
           rcases hbase with⟨rfl,_⟩|⟨ad,rfl,hcell⟩
           ·exact Qc5 w t _ e i hu hi (some ad0) 0 0 cap (Nat.le_refl _)
           ·simp[Builtin.append_,run_underlying hu,sizeOf,typeInfo,hi,Builtin.lenOf,Builtin.firstCells,loadCells,loadCellsFrom,storeCells]
         have h1:=h.mv (w':=w) (some j) (newId hh d) (.row i.size []) (ρ j) (Qan hid) rfl rfl rfl (Nat.le_refl _) (fun _ _ _=>rfl) (fun b hb=>by rw[free_block hf] at hb;cases hb) (fun C' _ => .inl ⟨rfl,hf⟩)
         have hrel:=h1.put (x := .ref (newId hh d)) (u:=ρ j) (hd d hdst) (by simp only[relA,if_true])
         rw[←hdst] at hrel
         exact⟨_,_,_,.inl (hexec _ _ hrun),hrel⟩
        ·rcases hbase with⟨_,h0⟩|⟨ad,rfl,hcell⟩
         ·exact absurd (by rw[h0];rfl) hn0
         ·have hrun:(Builtin.append_ #[t,t] o.type #[a.eval sx,a.eval x]).run P w = .ok (.slice (some ⟨w.heap.size,0,none⟩) new.length (grownCap w new.length 0 e)) (w.drew.alloc (.cells (news.toArray++Builtin.zeroCells z.cells (grownCap w new.length 0 e-new.length)) e)):=by
           rw[hs,hx]
           rcases hf with h2|⟨ad0,h2⟩
           ·rw[h2];exact run_append_nil (P:=P) w t o.type e i z hu hi hz ad new.length cap news hnl hcell (by omega) (by simp only[maxLen] at hp1;omega) (by omega)
           ·rw[h2]
            have hg:=run_append_grow (P:=P) w t o.type e i z hu hi hz ad0 0 0 [] (by simp) (fun k v hk=>by simp at hk) ad new.length cap news hnl hcell (by omega) (by simp only[maxLen] at hp1;omega) (growslice_fits (by omega) (by simpa using hp2))
            simpa using hg
          have hrel:=h.alloc_row (hd d hdst) (Qan hid) (w1:=w.drew) (.inr rfl) (m:=i.size) (cap:=grownCap w new.length 0 e) (rows:=new)
           (cs:=news.toArray++Builtin.zeroCells z.cells (grownCap w new.length 0 e-new.length)) e (grownCap_ge _ _ _ _) (grownCap_le_maxLen _ _ _ _ hp1)
           (by
            have:=grownCap_ge w new.length 0 e
            simp only[Array.size_append,List.size_toArray,size_zeroCells,hzc,hnl,←Nat.add_mul];congr 1;omega)
           (fun C' hC=>Qad hC _ _ _ _ 0 (fun j c hj=>by
            have hlt:=(List.getElem?_eq_some_iff.1 hj).1
            rw[Array.getElem?_append_left (by simpa using hlt)];simpa using hj) hnr) (some j)
          rw[←hdst] at hrel
          exact⟨_,_,_,.inl (hexec _ _ hrun),hrel⟩
       ·have hfitc:(old.length+new.length)≤capo→old.length*i.size+news.length≤cur.size:=fun hle=>by
         rw[hnl,h5,←Nat.add_mul];exact Nat.mul_le_mul_right _ hle
        by_cases hroom:old.length+new.length≤capo
        ·
         have hlen1:(cur.toList.take (old.length*i.size)).length=old.length*i.size:=by
          have:=hfitc hroom
          simp;omega
         have hrun:(Builtin.append_ #[t,t] o.type #[a.eval sx,a.eval x]).run P w = .ok (.slice (some ⟨b,0,none⟩) (old.length+new.length) capo) (w.setRow b (cur.toList.take (old.length*i.size)++news++cur.toList.drop (old.length*i.size+news.length)).toArray):=by
          rw[hs,h1,hx]
          rcases hbase with⟨rfl,hnil⟩|⟨ad,rfl,hcell⟩
          ·subst hnil
           have hn:news=[]:=List.eq_nil_of_length_eq_zero (by simpa using hnl)
           subst hn
           have:=Qc5 (P:=P) w t o.type e i hu hi (some ⟨b,0,none⟩) old.length capo cap h3
           simp only[List.length_nil,Nat.add_zero,List.append_nil,List.take_append_drop,Array.toArray_toList] at this ⊢
           rw[setRow_self w b cur e' (0,0) h2];exact this
          ·exact append_room w t o.type e e' i hu hi b old.length capo cur h2 ad new.length cap news hnl hcell hn1 hroom (hfitc hroom)
         have hmv:=h.mv (w':=w.setRow b (cur.toList.take (old.length*i.size)++news++cur.toList.drop (old.length*i.size+news.length)).toArray) (some j) (newId hh d) (.row i.size (old++new)) (.slice (some ⟨b,0,none⟩) (old.length+new.length) capo) (Qan hid) rfl rfl rfl (by simp)
          (fun c hc hne=>setRow_other w b c _ (fun e1=>hne j rfl (by simp[hobj]) (by rw[h1,e1];exact Qah h6c))) (fun c hc => .inr ⟨j,rfl,by simp[hobj],by rw[h1];rw[Qah h6c] at *;exact hc⟩)
          (fun C' hC => .inr ⟨b,capo,_,e',by rw[hnlen],setRow_heap w b cur _ e' _ h2,by rw[hnlen];exact hroom,h4,by
            have:=hfitc hroom
            simp only[List.size_toArray,List.length_append,List.length_take,List.length_drop,Array.length_toList];omega,by
            refine⟨Qbp (Qai (Qad hC _ _ _ _ 0 (fun _ _ x=>x) h6) fun k c hk hc => ?_) (Qai (Qad hC _ _ _ _ 0 (fun _ _ x=>x) hnr) fun k c hk hc => ?_),h6c⟩
            ·simp only[Nat.zero_add] at hc ⊢
             simp only[List.getElem?_toArray]
             rw[List.append_assoc,List.getElem?_append_left (by omega),List.getElem?_take,if_pos hk];simpa using hc
            ·simp only[Nat.zero_add] at hc ⊢
             simp only[List.getElem?_toArray]
             rw[List.append_assoc,List.getElem?_append_right (by omega),hlen1,Nat.add_sub_cancel_left,List.getElem?_append_left (by omega)];exact hc⟩)
         have hrel:=hmv.put (x := .ref (newId hh d)) (u := .slice (some ⟨b,0,none⟩) (old.length+new.length) capo) (hd d hdst) (by simp only[relA,if_true])
         rw[←hdst] at hrel
         exact⟨_,_,_,.inl (hexec _ _ hrun),hrel⟩
        ·rcases hbase with⟨_,hnil⟩|⟨ad,rfl,hcell⟩
         ·subst hnil;simp at hroom;omega
         ·have hol:(cur.toList.take (old.length*i.size)).length=old.length*i.size:=by
           have:old.length*i.size≤capo*i.size:=Nat.mul_le_mul_right _ h3
           simp;omega
          have hrun:=run_append_grow (P:=P) w t o.type e i z hu hi hz ⟨b,0,none⟩ old.length capo (cur.toList.take (old.length*i.size)) hol (fun k v hk=>by
            rw[Addr.add_mid,Nat.zero_add,cell_of_row w b k cur e' (0,0) h2]
            rw[List.getElem?_take] at hk
            split at hk
            ·simpa using hk
            ·cases hk) ad new.length cap news hnl hcell (by omega) (by simp only[maxLen] at hp1;omega) (growslice_fits (by omega) hp2)
          rw[←hx,←h1,←hs] at hrun
          have hrel:=h.alloc_row (hd d hdst) (Qan hid) (w1:=w.drew) (.inr rfl) (m:=i.size) (cap:=grownCap w (old.length+new.length) capo e) (rows:=old++new)
           (cs:=(cur.toList.take (old.length*i.size)).toArray++news.toArray++Builtin.zeroCells z.cells (grownCap w (old.length+new.length) capo e-(old.length+new.length))) e (by rw[hnlen];exact grownCap_ge _ _ _ _) (grownCap_le_maxLen _ _ _ _ hp1)
           (by
            have:=grownCap_ge w (old.length+new.length) capo e
            simp only[Array.size_append,List.size_toArray,size_zeroCells,hzc,hnl,hol,←Nat.add_mul];congr 1;omega)
           (fun C' hC=>by
            refine Qbp (Qai (Qad hC _ _ _ _ 0 (fun _ _ x=>x) h6) fun k c hk hc => ?_) (Qai (Qad hC _ _ _ _ 0 (fun _ _ x=>x) hnr) fun k c hk hc => ?_)
            ·simp only[Nat.zero_add] at hc ⊢
             rw[Array.append_assoc,Array.getElem?_append_left (by simpa[hol] using by omega)]
             simp only[List.getElem?_toArray]
             rw[List.getElem?_take,if_pos hk];simpa using hc
            ·simp only[Nat.zero_add] at hc ⊢
             rw[Array.append_assoc,Array.getElem?_append_right (by simp[hol]),Array.getElem?_append_left (by simp only[List.size_toArray];omega)]
             simp only[List.getElem?_toArray,List.size_toArray]
             rw[hol,Nat.add_sub_cancel_left];exact hc) (some j)
          rw[hnlen,←hdst] at hrel
          exact⟨_,_,_,.inl (hexec _ _ hrun),hrel⟩
      ·cases hv
     ·cases hv
    ·cases hv
   ·cases hv
  ·cases hv
 ·cases hv
end Go.Ab
