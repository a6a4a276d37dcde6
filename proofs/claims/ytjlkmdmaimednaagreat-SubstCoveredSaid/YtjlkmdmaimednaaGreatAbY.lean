import Derived.Test.YtjlkmdmaimednaaGreatAbX
import Derived.Shelf.SlIter.Sorted
import Derived.Shelf.SlIterI.Sorted
set_option linter.unusedVariables false
set_option linter.unusedSimpArgs false
namespace Go.Ab
open Go.Shelf Go.Proofs Go.Maps Go.Sort Go.WideElems
theorem relE_maps {C:View}{agg:Bool}:∀{xs:List Ent}{es:List MapEntry},relE C agg xs es→es.map (·.key)=xs.map (·.key)∧es.map (·.born)=xs.map (·.born)
 |[],es,h=>by simp only[relE] at h;subst h;exact⟨rfl,rfl⟩
 |x::xs,es,h=>by
  simp only[relE] at h
  obtain⟨e,es',cs,rfl,h1,h2,_,_,_,h3⟩:=h
  obtain⟨a,b⟩:=relE_maps h3
  exact⟨by simp[h1,a],by simp[h2,b]⟩
theorem rows_plain {C:View}{V:Nat→Option Value}:∀{xs:List Value}{o:Nat},(∀v∈xs,v.oneCell'=true)→(∀i,i<xs.length→V (o+i)=xs[i]?)→repRows C 1 (xs.map fun v=>[T.v v]) V o
 |[],_,_,_=>by simp only[List.map_nil,repRows]
 |x::xs,o,h1,h=>by
  simp only[List.map_cons,repRows,repRow]
  refine⟨rfl,⟨⟨x,by simpa using h 0 (by simp),h1 x (by simp),by simp[rep]⟩,trivial⟩,rows_plain (fun v hv=>h1 v (by simp[hv])) fun i hi => ?_⟩
  have:=h (i+1) (by simpa using hi)
  rw[Nat.add_assoc,Nat.add_comm 1 i];simpa using this
theorem own_lt {hid:Nat→Prop}{ρ:Nat→Value}{objs:Nat→Option O}{w:World}(h:Heap hid ρ objs w){b:Nat}(hb:own ρ objs b):b<w.heap.size:=by
 obtain⟨i,hi,hbi⟩:=hb
 obtain⟨o,ho⟩:=Option.isSome_iff_exists.1 hi
 exact Qcj (h.obj i o ho) hbi
theorem Heap.below {hid:Nat→Prop}{ρ:Nat→Value}{objs:Nat→Option O}{w w':World}(h:Heap hid ρ objs w) (hb:RowKit.Below w.heap.size w w'):Heap hid ρ objs w':=by
 have hle:(view hid (own ρ objs) w).le (view hid (own ρ objs) w'):=by
  intro b o c hc
  rw[Qae] at hc ⊢
  have hlt:b<w.heap.size:=World.block_lt_of_cell? w _ hc.2.2
  exact⟨hc.1,hc.2.1,by rw[World.cell?_of_block (w:=w) (hb.block b hlt)];exact hc.2.2⟩
 refine⟨fun i o hi => ?_,h.dis,h.nhid,fun b hbh=>Nat.lt_of_lt_of_le (h.hlt b hbh) hb.size⟩
 have h1:=h.obj i o hi
 exact Qbe (w:=w) hle (fun b hbo=>hb.block b (Qcj h1 hbo)) o h1
theorem Con_keysA {P:Program}{f g:FuncId}{et:TypeId}{agg:Bool}{clock:Nat}{es:List Ent}{D:List Value→Prop}{i j:Nat}(hij:i≠j) (hent:Enter P f) (hone:∀out,D out→∀v∈out,v.oneCell'=true)
  (hcall:∀(w:World)(b r:Nat)(ents:Array MapEntry),b<w.heap.size→w.cell? ⟨b,0,none⟩=some (.map (some r))→w.heap[r]? = some (.map ents clock)→ents.toList.map (·.key)=es.map (·.key)→ents.toList.map (·.born)=es.map (·.born)→
   Calls P f #[.func (.func g) #[] #[.pointer (some ⟨b,0,none⟩)]] w fun e w'=>∃v n out,D out∧e = .returned v∧w'.ownsRow w.heap.size et 1 v n out∧RowKit.Below w.heap.size w w'):
  Con P f [.fn g [.at i 0]] [(i,.box [.ref j]),(j,.map agg clock es)] (fun r o=>∃out,D out∧r = .t (.sl 1 (out.map fun v=>[T.v v]))∧o=[(i,.box [.ref j]),(j,.map agg clock es)]):=by
 refine⟨hent,fun hid ρ w us hh hu => ?_⟩
 simp only[relAs,relA] at hu
 obtain⟨u,us',rfl,⟨cs,rfl,⟨v,vs,hcs,⟨b,hb,rfl⟩,hvs⟩⟩,rfl⟩:=hu
 subst hvs
 obtain rfl:cs = #[.pointer (some ⟨b,0,none⟩)]:=by rw[←Array.toList_inj];simpa using hcs
 have h1:=hh.obj i (.box [.ref j]) (by simp[ofO])
 have hji:(j==i)=false:=by simpa using fun e:j=i=>hij e.symm
 have h2:=hh.obj j (.map agg clock es) (by simp[ofO,List.lookup_cons,hji])
 simp only[relO] at h1 h2
 obtain⟨b',cur,e,hb',hcur,hrel⟩:=h1
 obtain⟨r,ents,hr,hents,hE⟩:=h2
 obtain rfl:b=b':=by rw[hb] at hb';simpa using hb'
 simp only[relAs,relA] at hrel
 obtain⟨u,us',hl,rfl,rfl⟩:=hrel
 rw[hr] at hl
 obtain rfl:cur = #[.map (some r)]:=by rw[←Array.toList_inj];simpa using hl
 have hbl:b<w.heap.size:=Qa6 hcur
 have hm:w.cell? ⟨b,0,none⟩=some (.map (some r)):=by unfold World.cell?;simp[hcur]
 obtain⟨hk,hbn⟩:=relE_maps hE
 refine(hcall w b r ents hbl hm hents hk hbn).mono ?_
 rintro e' w' ⟨v,n,out,hD,rfl,hrow,hbel⟩
 have hone:=hone out hD
 refine⟨_,_,ρ,v,⟨out,hD,rfl,rfl⟩,rfl,hh.below hbel,?_,⟨hbel.os,hbel.tape,hbel.output,hbel.size,fun c hc _=>hbel.block c hc,fun c hc => .inl hc⟩,fun _ _ _=>rfl⟩
 simp only[relA,rep,List.map_eq_nil_iff,List.length_map]
 obtain⟨hlen,h|⟨gb,cap,cur,rfl,hbase,hgb,r1,r2,r3,r4⟩⟩:=hrow
 ·obtain⟨rfl,rfl⟩:=h
  exact .inl ⟨List.eq_nil_of_length_eq_zero (by omega),.inl rfl⟩
 ·have hn:n=out.length:=by omega
  subst hn
  refine .inr ⟨gb,0,cap,rfl,r1,r2,rows_plain hone fun i hi => ?_⟩
  have hci:cur[i]? = out[i]? :=by
   have:=congrArg (fun l=>l[i]?) r4
   simp only[List.getElem?_take] at this
   rw[if_pos (by omega)] at this
   simpa using this
  rw[Nat.zero_add,←hci]
  have hsome:∃c,cur[i]? = some c:=by rw[hci];exact⟨_,List.getElem?_eq_getElem hi⟩
  obtain⟨c,hc⟩:=hsome
  rw[hc,Qae]
  refine⟨fun ho => ?_,fun ho => ?_,?_⟩
  ·have:=own_lt hh ho;omega
  ·have:=hh.hlt gb ho;omega
  ·unfold World.cell?;simp[hgb,hc]
theorem Con_keys {P:Program}{f g:FuncId}{et:TypeId}{agg:Bool}{clock:Nat}{es:List Ent}{out:List Value}{i j:Nat}(hij:i≠j) (hent:Enter P f) (hone:∀v∈out,v.oneCell'=true)
  (hcall:∀(w:World)(b r:Nat)(ents:Array MapEntry),b<w.heap.size→w.cell? ⟨b,0,none⟩=some (.map (some r))→w.heap[r]? = some (.map ents clock)→ents.toList.map (·.key)=es.map (·.key)→ents.toList.map (·.born)=es.map (·.born)→
   Calls P f #[.func (.func g) #[] #[.pointer (some ⟨b,0,none⟩)]] w fun e w'=>∃v n,e = .returned v∧w'.ownsRow w.heap.size et 1 v n out∧RowKit.Below w.heap.size w w'):
  Con P f [.fn g [.at i 0]] [(i,.box [.ref j]),(j,.map agg clock es)] (fun r o=>r = .t (.sl 1 (out.map fun v=>[T.v v]))∧o=[(i,.box [.ref j]),(j,.map agg clock es)]):=
 (Con_keysA hij hent (D:=fun o=>o=out) (fun o e=>by rw[e];exact hone) fun w b r ents h1 h2 h3 h4 h5=>(hcall w b r ents h1 h2 h3 h4 h5).mono fun e w' ⟨v,n,h⟩=>⟨v,n,out,rfl,h⟩).mono fun r os ⟨o,h1,h2,h3⟩=>by subst h1;exact⟨h2,h3⟩
structure GM.ok {κ ν:Type} (kl:κ→Prop) (m:GM κ ν):Prop where
 few:m.es.length≤1000000
 keys:∀x∈m.es,x.2.1<m.clock∧kl x.1
 born:(m.es.map (·.2.1)).Nodup
 apart:(m.es.map (·.1)).Nodup
def GM.keys {κ ν:Type}(m:GM κ ν):List κ:=m.es.map (·.1)
def sortI (l:List Int):List Int:=l.mergeSort leI
def sortS (l:List ByteArray):List ByteArray:=((l.map fun b=>b.data.toList).mergeSort leB).map fun l=>⟨l.toArray⟩
def anyR:Value→Option (DataW Unit×List MemPlace):=fun _=>some (.nil,[])
theorem owns_of {P:Program}{k:TypeId}{w:World}{r:Nat}{ents:Array MapEntry}{κ ν:Type}{ek:κ→Value}{ev:ν→List T}{kl:κ→Prop}{lk:κ→Lit}{m:GM κ ν}(hm:m.ok kl) (inj:∀a b,ek a=ek b→a=b)
  (hk:∀x,kl x→keyOf P k (ek x)=some (lk x)) (he:w.heap[r]? = some (.map ents m.clock)) (h1:ents.toList.map (·.key)=(m.ents ek ev).map (·.key)) (h2:ents.toList.map (·.born)=(m.ents ek ev).map (·.born)):
  ∃D:DataW Unit,w.ownsMap P k anyR r ents.size D∧ents.size=m.es.length∧∃l:List (Lit×DataW Unit),D = .map l∧(l.map (·.1)).Perm (m.keys.map lk):=by
 have h1':ents.toList.map (·.key)=m.es.map fun x=>ek x.1:=by rw[h1];simp[GM.ents,encE,Function.comp_def]
 have h2':ents.toList.map (·.born)=m.es.map fun x=>x.2.1:=by rw[h2];simp[GM.ents,encE,Function.comp_def]
 have hlen:ents.size=m.es.length:=by have:=congrArg List.length h1';simpa using this
 have hkey:∀x∈ents.toList,∃y∈m.es,x.key=ek y.1:=fun x hx=>by
  have:x.key∈ents.toList.map (·.key):=List.mem_map.2 ⟨x,hx,rfl⟩
  rw[h1'] at this
  obtain⟨y,hy,e⟩:=List.mem_map.1 this
  exact⟨y,hy,e.symm⟩
 have hrd:∀x∈ents.toList,∃a,kl a∧x.key=ek a∧rd P k anyR x=some (lk a,.nil):=fun x hx=>by
  obtain⟨y,hy,e⟩:=hkey x hx
  refine⟨y.1,(hm.keys y hy).2,e,?_⟩
  simp only[rd,e,hk _ (hm.keys y hy).2,anyR];rfl
 refine⟨_,⟨ents,m.clock,he,⟨?_,⟨?_,?_,?_⟩,?_⟩,Nat.le_refl _,rfl⟩,hlen,_,rfl,?_⟩
 ·have:=hm.few;unfold maxLen;omega
 ·intro x hx
  have:x.born∈ents.toList.map (·.born):=List.mem_map.2 ⟨x,hx,rfl⟩
  rw[h2'] at this
  obtain⟨y,hy,e⟩:=List.mem_map.1 this
  rw[←e];exact(hm.keys y hy).1
 ·rw[h2'];exact hm.born
 ·rw[h1']
  have:(m.es.map fun x=>ek x.1)=(m.es.map (·.1)).map ek:=by simp[Function.comp_def]
  rw[this]
  exact List.Pairwise.map _ (fun a b hab h=>hab (inj a b h)) hm.apart
 ·intro x hx
  obtain⟨a,_,_,h⟩:=hrd x hx
  exact⟨_,h⟩
 ·refine((WideShapes.sorted_perm _).map _).trans ?_
  rw[List.map_map]
  have:ents.toList.map ((fun x=>x.1)∘rg P k anyR)=m.keys.map lk:=by
   have e1:∀(l:List MapEntry)(q:List (κ×Nat×ν)),(∀x∈q,kl x.1)→l.map (·.key)=q.map (fun x=>ek x.1)→l.map ((fun x=>x.1)∘rg P k anyR)=(q.map (·.1)).map lk:=by
    intro l
    induction l with
    |nil=>intro q _ h;cases q with
     |nil=>rfl
     |cons y q=>simp at h
    |cons x l ih=>
     intro q hq h
     cases q with
     |nil=>simp at h
     |cons y q=>
      simp only[List.map_cons,List.cons.injEq] at h ⊢
      refine⟨?_,ih q (fun z hz=>hq z (List.mem_cons_of_mem _ hz)) h.2⟩
      simp only[Function.comp,rg,rd,h.1,hk _ (hq y (by simp)),anyR];rfl
   exact e1 _ _ (fun x hx=>(hm.keys x hx).2) h1'
  rw[this]
theorem Con_mkKeys {P:Program}{f g:FuncId}{et:TypeId}{agg:Bool}{clock:Nat}{es:List Ent}{i j:Nat}(hij:i≠j) (hl:loose j=false) (hent:Enter P f)
  (hcall:∀(mb:Option Nat)(w:World),Calls P f #[.map mb] w fun e w'=>e = .returned (.func (.func g) #[] #[.pointer (some ⟨w.heap.size,0,none⟩)])∧w'=w.alloc (.cells #[.map mb] et)):
  Con P f [.ref j] [(j,.map agg clock es)] (fun r o=>r = .fn g [.at i 0]∧o=[(i,.box [.ref j]),(j,.map agg clock es)]):=by
 refine⟨hent,fun hid ρ w us hh hu => ?_⟩
 simp only[relAs,relA] at hu
 obtain⟨u,us',rfl,rfl,rfl⟩:=hu
 have hj0:ofO [(j,O.map agg clock es)] j=some (.map agg clock es):=by simp[ofO]
 have h2:=hh.obj j _ hj0
 have h2':=h2
 simp only[relO] at h2'
 obtain⟨r,ents,hr,hents,hE⟩:=h2'
 have hji:(j==i)=false:=by simpa using fun e:j=i=>hij e.symm
 have hrl:r<w.heap.size:=Qa6 hents
 rw[hr]
 refine(hcall (some r) w).mono ?_
 rintro e w' ⟨rfl,rfl⟩
 let σ:Nat→Value:=fun q=>if q=i then .pointer (some ⟨w.heap.size,0,none⟩) else ρ q
 have si:σ i = .pointer (some ⟨w.heap.size,0,none⟩):=if_pos rfl
 have sj:σ j = .map (some r):=by show(if j=i then _ else ρ j)=_;rw[if_neg (fun e=>hij e.symm),hr]
 have lk:∀q o,ofO [(i,O.box [.ref j]),(j,.map agg clock es)] q=some o→(q=i∧o = .box [.ref j])∨(q=j∧o = .map agg clock es):=by
  intro q o h
  unfold ofO at h
  simp only[List.lookup_cons] at h
  cases hqi:(q==i) with
  |true=>rw[hqi] at h;exact .inl ⟨by simpa using hqi,by simpa using h.symm⟩
  |false=>
   rw[hqi] at h
   cases hqj:(q==j) with
   |true=>rw[hqj] at h;exact .inr ⟨by simpa using hqj,by simpa using h.symm⟩
   |false=>rw[hqj] at h;simp at h
 have bel:RowKit.Below w.heap.size w (w.alloc (.cells #[.map (some r)] et)):=(RowKit.Below.refl _ w).alloc (Nat.le_refl _) _
 have new:(w.alloc (.cells #[.map (some r)] et)).heap[w.heap.size]? = some (.cells #[.map (some r)] et (0,0)):=(MapKept.heap_alloc w _).1
 have own':∀b,own σ (ofO [(i,O.box [.ref j]),(j,.map agg clock es)]) b→b=w.heap.size∨b=r:=by
  rintro b ⟨q,hq,hb⟩
  obtain⟨o,ho⟩:=Option.isSome_iff_exists.1 hq
  rcases lk q o ho with⟨rfl,rfl⟩|⟨rfl,rfl⟩
  ·rw[si] at hb;simp[blockOf] at hb;exact .inl hb.symm
  ·rw[sj] at hb;simp[blockOf] at hb;exact .inr hb.symm
 have or0:own ρ (ofO [(j,O.map agg clock es)]) r:=⟨j,by rw[hj0];rfl,by rw[hr];rfl⟩
 have hle:(view hid (own ρ (ofO [(j,O.map agg clock es)])) w).le (view hid (own σ (ofO [(i,O.box [.ref j]),(j,.map agg clock es)])) (w.alloc (.cells #[.map (some r)] et))):=by
  intro b o c hc
  rw[Qae] at hc ⊢
  have hlt:b<w.heap.size:=World.block_lt_of_cell? w _ hc.2.2
  refine⟨fun ho => ?_,hc.2.1,by rw[World.cell?_of_block (w:=w) (bel.block b hlt)];exact hc.2.2⟩
  rcases own' b ho with rfl|rfl
  ·omega
  ·exact hc.1 or0
 refine⟨_,_,σ,_,⟨rfl,rfl⟩,rfl,⟨?_,?_,?_,?_⟩,?_,⟨bel.os,bel.tape,bel.output,bel.size,fun c hc _=>bel.block c hc,?_⟩,?_⟩
 ·intro q o hq
  rcases lk q o hq with⟨rfl,rfl⟩|⟨rfl,rfl⟩
  ·simp only[relO]
   exact⟨_,_,_,si,new,by simp only[relAs,relA];exact⟨_,_,rfl,sj.symm,rfl⟩⟩
  ·rw[sj]
   have h3:=Qbe (w:=w) (w':=w.alloc (.cells #[.map (some r)] et)) (ρ:=ρ) hle (fun b hbo=>bel.block b (Qcj h2 hbo)) _ h2
   rw[hr] at h3
   exact h3
 ·intro q q' b hq hq' hb hb'
  obtain⟨o,ho⟩:=Option.isSome_iff_exists.1 hq
  obtain⟨o',ho'⟩:=Option.isSome_iff_exists.1 hq'
  rcases lk q o ho with⟨rfl,rfl⟩|⟨rfl,rfl⟩<;>rcases lk q' o' ho' with⟨rfl,rfl⟩|⟨rfl,rfl⟩
  ·rfl
  ·rw[si] at hb;rw[sj] at hb';simp[blockOf] at hb hb';omega
  ·rw[sj] at hb;rw[si] at hb';simp[blockOf] at hb hb';omega
  ·rfl
 ·intro b hb
  rcases own' b hb with rfl|rfl
  ·intro h;have:=hh.hlt _ h;omega
  ·exact hh.nhid _ or0
 ·intro b hb;exact Nat.lt_of_lt_of_le (hh.hlt b hb) bel.size
 ·simp only[relA,relAs]
  exact⟨_,rfl,_,_,rfl,⟨_,si,rfl⟩,rfl⟩
 ·intro b hb
  rcases own' b hb with rfl|rfl
  ·exact .inr (Nat.le_refl _)
  ·exact .inl or0
 ·intro q hq _
  have:q=j:=by
   unfold ofO at hq
   simp only[List.lookup_cons] at hq
   cases hqj:(q==j) with
   |true=>simpa using hqj
   |false=>rw[hqj] at hq;simp at hq
  subst this
  rw[sj,hr]
theorem Con_keysI {P:Program}{ρ6 ρ10:Ren}{ν:Type}{ev:ν→List T}{m:GM Int ν}{agg:Bool}{i j:Nat}(hij:i≠j) (L6:SlLaysZI.n6 P ρ6) (L10:SlLaysZI.n10 P ρ10) (e26:P.underlying (ρ10.t 26)=some (.int .i64)) (hsort:∀n,AnyZI.SortsIn P ρ6 Fence.wide n) (e9:Enter P (ρ6.f 9)) (eg:Enter P (ρ10.f 10)) (ef:Enter P (ρ6.f 6))
  (hm:m.ok (InK .i64)):Con P (ρ6.f 6) [.fn (ρ10.f 10) [.at i 0]] [(i,.box [.ref j]),(j,.map agg m.clock (m.ents (kI .i64) ev))] (fun r o=>r = .t (.sl 1 ((sortI m.keys).map eN))∧o=[(i,.box [.ref j]),(j,.map agg m.clock (m.ents (kI .i64) ev))]):=by
 have h:=Con_keys hij (f:=ρ6.f 6) (g:=ρ10.f 10) (et:=ρ6.t 26) (agg:=agg) (clock:=m.clock) (es:=m.ents (kI .i64) ev) (out:=(sortI m.keys).map encZ) ef (by intro v hv;obtain⟨x,_,rfl⟩:=List.mem_map.1 hv;rfl) ?_
 ·rw[List.map_map] at h;exact h
 ·intro w b r ents hb hc hents hk hbn
  obtain⟨D,hown,hlen,l,rfl,hperm⟩:=owns_of (P:=P) (k:=ρ10.t 26) (lk:=fun n => .int .i64 n) hm (fun a b h=>by simpa[kI] using h) (fun x hx=>by
   simp only[kI,keyOf,e26,mapKey];simp[Lit.wf];exact hx) hents hk hbn
  have hsz:Maps.size (DataW.map l)=m.es.length:=by
   show l.length=_
   have:=hperm.length_eq;simpa[GM.keys] using this
  refine((callsIn_wide (n:=6)).1 (AnyZI.sorted_in L6 Fence.wide 6 trivial trivial trivial trivial rfl (by omega) (hsort _) e9 (ρ10.f 10) _ trivial eg _ (Maps.size (DataW.map l)) (by rw[hsz];have:=hm.few;unfold maxLen;omega) (by rw[hsz];have:=hm.few;omega) w (AnyZI.keys_gives L10 Fence.wide _ trivial rfl (by omega) b r ents.size _ w hb hc hown))).mono ?_
  rintro e w' ⟨v,ss,rfl,hp,hrow,_,hbel⟩
  refine⟨v,ss.length,rfl,?_,hbel⟩
  have hs:ss.Perm m.keys:=by
   refine hp.trans ?_
   have:intKeys (DataW.map l)=(l.map (·.1)).map intOf:=by simp[intKeys,Function.comp_def]
   rw[this]
   refine(hperm.map _).trans ?_
   rw[List.map_map]
   have:(intOf∘fun n:Int=>Lit.int .i64 n)=id:=by funext n;rfl
   rw[this,List.map_id]
  have:ss.mergeSort (fun x y=>decide (x≤y))=sortI m.keys:=mergeSort_of_perm_i hs
  rw[this] at hrow
  exact hrow
theorem Con_keysS {P:Program}{ρ6 ρ10:Ren}{ν:Type}{ev:ν→List T}{m:GM ByteArray ν}{agg:Bool}{i j:Nat}(hij:i≠j) (L6:SlLaysZ.n6 P ρ6) (L10:SlLaysZ.n10 P ρ10) (e26:P.underlying (ρ10.t 26)=some .string) (hsort:∀n,AnyZ.SortsIn P ρ6 Fence.wide n) (e9:Enter P (ρ6.f 9)) (eg:Enter P (ρ10.f 10)) (ef:Enter P (ρ6.f 6))
  (hm:m.ok (fun b:ByteArray=>b.size≤maxLen)):Con P (ρ6.f 6) [.fn (ρ10.f 10) [.at i 0]] [(i,.box [.ref j]),(j,.map agg m.clock (m.ents kS ev))] (fun r o=>r = .t (.sl 1 ((sortS m.keys).map eS))∧o=[(i,.box [.ref j]),(j,.map agg m.clock (m.ents kS ev))]):=by
 have h:=Con_keys hij (f:=ρ6.f 6) (g:=ρ10.f 10) (et:=ρ6.t 26) (agg:=agg) (clock:=m.clock) (es:=m.ents kS ev) (out:=(sortS m.keys).map kS) ef (by intro v hv;obtain⟨x,_,rfl⟩:=List.mem_map.1 hv;rfl) ?_
 ·rw[List.map_map] at h;exact h
 ·intro w b r ents hb hc hents hk hbn
  obtain⟨D,hown,hlen,l,rfl,hperm⟩:=owns_of (P:=P) (k:=ρ10.t 26) (lk:=fun n => .string n.data.toList) hm (fun a b h=>by simpa[kS] using h) (fun x hx=>by
   simp only[kS,keyOf,e26,mapKey];simp;exact hx) hents hk hbn
  have hsz:Maps.size (DataW.map l)=m.es.length:=by
   show l.length=_
   have:=hperm.length_eq;simpa[GM.keys] using this
  refine((callsIn_wide (n:=6)).1 (AnyZ.sorted_in L6 Fence.wide 6 trivial trivial trivial trivial rfl (by omega) (hsort _) e9 (ρ10.f 10) _ trivial eg _ (Maps.size (DataW.map l)) (by rw[hsz];have:=hm.few;unfold maxLen;omega) (by rw[hsz];have:=hm.few;omega) w (AnyZ.keys_gives L10 Fence.wide _ trivial rfl (by omega) b r ents.size _ w hb hc hown))).mono ?_
  rintro e w' ⟨v,ss,rfl,hp,hrow,_,hbel⟩
  refine⟨v,ss.length,rfl,?_,hbel⟩
  have hs:ss.Perm (m.keys.map fun b=>b.data.toList):=by
   refine hp.trans ?_
   have:strKeys (DataW.map l)=(l.map (·.1)).map strOf:=by simp[strKeys,Function.comp_def]
   rw[this]
   refine(hperm.map _).trans ?_
   rw[List.map_map]
   exact List.Perm.refl _
  have:(ss.mergeSort (fun x y=>decide (x≤y))).map encStr=(sortS m.keys).map kS:=by
   rw[show ss.mergeSort (fun x y=>decide (x≤y))=_ from mergeSort_of_perm hs]
   simp[sortS,kS,Function.comp_def]
  rw[this] at hrow
  exact hrow
end Go.Ab
