import Derived.Deep.Slices
import Derived.ChangeArms
import Derived.SizedLaws
import Derived.ChangeOld
import Derived.Test.YtjlkmdmaimednaaGreatAbW
set_option linter.unusedVariables false
set_option linter.unusedSimpArgs false
namespace Go.Ab
def full (W:World):View:=fun b o=>W.cell? ⟨b,o,none⟩
def Opens (P:Program){α:Type}(k:α→List T)(t:TypeId)(B:α→Prop):Prop:=
 ∀{H:Type} (enc:TypeId×Value→H) (W:World) (base:Nat) (spare:Nat→Bool) (held:Bool) (fuel:Nat) (cs:List Value) (d:DataW H) (p:List MemPlace),
  DataW.trod enc P W base spare held fuel t cs=some (d,p)→(∀z∈DataW.weights P t d,z≤reachBytes)→∃x,cs.length=(k x).length∧repRow (full W) (k x) (fun i=>cs[i]?) 0∧B x
theorem row_one {C:View}{t:T}{c:Value}(h1:c.oneCell'=true) (h2:rep C t c):repRow C [t] (fun i=>[c][i]?) 0:=by
 simp only[repRow];exact⟨⟨c,by simp,h1,h2⟩,trivial⟩
theorem wf_in {k:IntKind}{n:Int}(h:(Lit.int k n).wf=true):InK k n:=by
 simpa[Lit.wf] using h
theorem Qam {P:Program}{t:TypeId}{ik:IntKind}(hu:P.underlying t=some (.int ik)):Opens P (fun n=>[.v (.int ik n)]) t (fun n=>InK ik n):=by
 intro H enc W base spare held fuel cs d p h _
 obtain⟨n,rfl,_,hw⟩:=DataW.trod_int hu h
 exact⟨n,rfl,row_one rfl (by simp[rep]),wf_in hw⟩
theorem Qbu {P:Program}{t:TypeId}(hu:P.underlying t=some .string):Opens P (fun s=>[str s]) t (fun s=>s.size≤140737488351232):=by
 intro H enc W base spare held fuel cs d p h hz
 obtain⟨s,rfl,hx,_⟩:=DataW.trod_string hu h
 refine⟨s,rfl,row_one rfl (by simp[rep]),?_⟩
 obtain⟨rfl,_⟩:=Prod.mk.inj hx
 have h2:s.size≤reachBytes:=by
  have:=hz s.data.toList.length (by simp[DataW.weights])
  simpa using this
 exact h2
theorem list_of {α:Type}(Q:Nat→α→Prop):∀n,(∀i,i<n→∃x,Q i x)→∃l:List α,l.length=n∧∀i x,l[i]? = some x→Q i x
 |0,_=>⟨[],rfl,fun i x h=>by simp at h⟩
 |n+1,h=>by
  obtain⟨l,hl,hq⟩:=list_of Q n (fun i hi=>h i (by omega))
  obtain⟨x,hx⟩:=h n (by omega)
  refine⟨l++[x],by simp[hl],fun i y hy => ?_⟩
  rw[List.getElem?_append] at hy
  split at hy
  ·exact hq i y hy
  ·have:i-l.length=0:=by
    rcases Nat.eq_zero_or_pos (i-l.length) with z|z
    ·exact z
    ·rw[List.getElem?_eq_none (by simp;omega)] at hy;cases hy
   rw[this] at hy
   simp at hy
   subst hy
   have:i=n:=by omega
   subst this
   exact hx
theorem weights_all {H:Type}{P:Program}{e:TypeId}:∀{ds:List (DataW H)}{d:DataW H},d∈ds→∀z∈DataW.weights P e d,z∈DataW.weightsAll P e ds
 |[],_,h,_,_=>by cases h
 |x::ds,d,h,z,hz=>by
  rcases List.mem_cons.1 h with rfl|h
  ·simp only[DataW.weightsAll];exact List.mem_append_left _ hz
  ·simp only[DataW.weightsAll];exact List.mem_append_right _ (weights_all h z hz)
theorem Qel {C:View}:∀{ts:List T}{V W:Nat→Option Value}{o o':Nat},(∀i c,i<ts.length→V (o+i)=some c→W (o'+i)=some c)→repRow C ts V o→repRow C ts W o'
 |[],_,_,_,_,_,_=>by simp only[repRow]
 |t::ts,V,W,o,o',hv,hr=>by
  simp only[repRow] at hr ⊢
  obtain⟨⟨c,h1,h0,h2⟩,h3⟩:=hr
  refine⟨⟨c,by simpa using hv 0 c (by simp) (by simpa using h1),h0,h2⟩,Qel (fun i c hi h => ?_) h3⟩
  have:=hv (i+1) c (by simpa using hi) (by rw[←Nat.add_assoc,Nat.add_right_comm];exact h)
  rw[←Nat.add_assoc,Nat.add_right_comm] at this;exact this
theorem repRows_at {C:View}{m:Nat}{V:Nat→Option Value}:∀{rows:List (List T)}{o:Nat},(∀i r,rows[i]? = some r→r.length=m∧repRow C r V (o+i*m))→repRows C m rows V o
 |[],_,_=>by simp only[repRows]
 |r::rows,o,h=>by
  simp only[repRows]
  have h0:=h 0 r (by simp)
  refine⟨h0.1,by simpa using h0.2,repRows_at fun i q hq => ?_⟩
  have:=h (i+1) q (by simpa using hq)
  rw[Nat.add_mul,Nat.one_mul,Nat.add_comm (i*m),←Nat.add_assoc] at this
  exact this
theorem Qbl {P:Program}{α:Type}{k:α→List T}{t e:TypeId}{B:α→Prop}{bytes m:Nat}(hu:P.underlying t=some (.slice e)) (hk:Opens P k e B) (hsz:P.cellsOf e=m) (hm0:0<m) (hb:P.bytesOf e=bytes):
  Opens P (fun l:List α=>[.sl m (l.map k)]) t (fun l=>l.length*bytes≤140737488351232∧∀x∈l,B x):=by
 intro H enc W base spare held fuel cs d p h hz
 rcases Go.Deep.open_slice hu h with⟨rfl,_⟩|⟨a,len,cap,mm,n,D,Pl,rfl,_,hl,hm,hmm,hx,hi⟩
 ·exact⟨[],rfl,row_one rfl (by simp[rep,emptySl]),by simp,by simp⟩
 ·have hd:d = .slice ((List.range len).map D) ((List.range (mm-len)).map fun j=>D (len+j)):=(Prod.mk.inj hx).1
  have lm:len≤mm:=by rw[hmm];split<;>omega
  have el:∀i,i<len→∃x,(∃cs',W.cells? base (a.add (i*P.cellsOf e)) (P.cellsOf e)=some cs'∧cs'.length=(k x).length∧repRow (full W) (k x) (fun i=>cs'[i]?) 0)∧B x:=by
   intro i hil
   obtain⟨cs',hc,ht⟩:=hi i (by omega)
   obtain⟨x,hK,hR,hB⟩:=hk enc W base spare held n cs' (D i) (Pl i) ht (fun z hzz=>hz z (by
    rw[hd];simp only[DataW.weights,hu]
    exact List.mem_cons_of_mem _ (List.mem_append_left _ (weights_all (List.mem_map.2 ⟨i,by simpa using hil,rfl⟩) z hzz))))
   exact⟨x,⟨cs',hc,hK,hR⟩,hB⟩
  obtain⟨l,hll,hq⟩:=list_of _ len el
  subst hll
  have hcap:cap≤maxLen:=by unfold maxLen at hm ⊢;omega
  refine⟨l,rfl,row_one rfl ?_,?_,?_⟩
  ·simp only[rep,List.map_eq_nil_iff,List.length_map]
   by_cases hl0:l=[]
   ·subst hl0;exact .inl ⟨rfl,.inr ⟨a,cap,rfl,hcap⟩⟩
   ·have hsp:a=⟨a.block,a.off,none⟩:=by
     obtain⟨x,hx0⟩:∃x,l[0]? = some x:=by
      cases l with
      |nil=>exact absurd rfl hl0
      |cons x l=>exact⟨x,rfl⟩
     obtain⟨⟨cs',hc,hK,_⟩,_⟩:=hq 0 x hx0
     obtain⟨_,hcl,hat⟩:=World.cells?_some hc
     have:=hat 0 (by omega)
     simp only[Nat.zero_mul,Addr.add,if_true] at this
     have hcz:∃c,W.cell? a=some c:=⟨_,by rw[this];exact List.getElem?_eq_getElem (by omega)⟩
     obtain⟨c,hc'⟩:=hcz
     obtain⟨b,o,s⟩:=a
     cases s with
     |none=>rfl
     |some s=>
      unfold World.cell? at hc'
      split at hc'
      ·simp at hc'
      ·cases hc'
    refine .inr ⟨a.block,a.off,cap,by rw[←hsp],hl,hcap,repRows_at fun i r hr => ?_⟩
    simp only[List.getElem?_map,Option.map_eq_some_iff] at hr
    obtain⟨x,hx1,rfl⟩:=hr
    obtain⟨⟨cs',hc,hK,hR⟩,_⟩:=hq i x hx1
    obtain⟨_,hcl,hat⟩:=World.cells?_some hc
    refine⟨by rw[←hK,hcl,hsz],Qel (fun j c hj hcj => ?_) hR⟩
    have hj':j<P.cellsOf e:=by rw[←hcl,hK];exact hj
    have:=hat j hj'
    rw[Go.Deep.add_add] at this
    rw[hsp] at this
    rw[Addr.add_mid] at this
    simp only[Nat.zero_add] at hcj
    rw[hcj,hsz,←Nat.add_assoc] at this
    exact this
  ·have:=hz ((l.length+(mm-l.length))*P.bytesOf e) (by rw[hd];simp[DataW.weights,hu])
   rw[hb] at this
   have h2:l.length*bytes≤(l.length+(mm-l.length))*bytes:=Nat.mul_le_mul_right _ (by omega)
   exact Nat.le_trans h2 this
  ·intro x hx'
   obtain⟨i,hi',rfl⟩:=List.mem_iff_getElem.1 hx'
   exact(hq i _ (List.getElem?_eq_getElem hi')).2
def OpensL (P:Program){α:Type}(k:α→List T)(ts:List TypeId)(B:α→Prop):Prop:=
 ∀{H:Type} (enc:TypeId×Value→H) (W:World) (base:Nat) (spare:Nat→Bool) (held:Bool) (fuel:Nat) (cs:List Value) (xs:List (DataW H×List MemPlace)),
  cs.length=(ts.map P.cellsOf).sum→xs.length=ts.length→
  (∀(i:Nat)(t:TypeId),ts[i]? = some t→DataW.trod enc P W base spare held fuel t ((cs.drop ((ts.take i).map P.cellsOf).sum).take (P.cellsOf t))=xs[i]?)→
  (∀z∈DataW.weightsEach P ts (xs.map (·.1)),z≤reachBytes)→∃x,cs.length=(k x).length∧repRow (full W) (k x) (fun i=>cs[i]?) 0∧B x
theorem Qbm {P:Program}{α:Type}{k:α→List T}{t:TypeId}{B:α→Prop}(h:Opens P k t B):OpensL P k [t] B:=by
 intro H enc W base spare held fuel cs xs hl hx ht hz
 obtain⟨x,rfl⟩:∃x,xs=[x]:=by
  match xs,hx with
  |[x],_=>exact⟨x,rfl⟩
 have h0:=ht 0 t rfl
 simp at hl
 simp only[List.take_zero,List.map_nil,List.sum_nil,List.drop_zero,List.getElem?_cons_zero] at h0
 rw[List.take_of_length_le (by omega)] at h0
 exact h enc W base spare held fuel cs x.1 x.2 h0 (fun z hzz=>hz z (DataW.weights_mem_each (j:=0) rfl rfl z hzz))
theorem Qem {C:View}:∀{a b:List T}{V:Nat→Option Value}{o:Nat},repRow C a V o→repRow C b V (o+a.length)→repRow C (a++b) V o
 |[],b,V,o,_,h=>by simpa using h
 |t::a,b,V,o,h,h2=>by
  simp only[repRow] at h
  simp only[List.cons_append,repRow]
  exact⟨h.1,Qem h.2 (by rw[List.length_cons] at h2;rw[Nat.add_assoc,Nat.add_comm 1];exact h2)⟩
theorem Qaf {P:Program}{α β:Type}{k:α→List T}{k2:β→List T}{t:TypeId}{ts:List TypeId}{B:α→Prop}{B2:β→Prop}(h:Opens P k t B) (h2:OpensL P k2 ts B2):OpensL P (fun x:α×β=>k x.1++k2 x.2) (t::ts) (fun x=>B x.1∧B2 x.2):=by
 intro H enc W base spare held fuel cs xs hl hx ht hz
 obtain⟨x,xs,rfl⟩:∃x ys,xs=x::ys:=by
  match xs,hx with
  |x::ys,_=>exact⟨x,ys,rfl⟩
 simp only[List.map_cons,List.sum_cons] at hl
 have h0:=ht 0 t rfl
 simp only[List.take_zero,List.map_nil,List.sum_nil,List.drop_zero,List.getElem?_cons_zero] at h0
 obtain⟨a,ha,hR,hB⟩:=h enc W base spare held fuel _ x.1 x.2 h0 (fun z hzz=>hz z (DataW.weights_mem_each (j:=0) rfl rfl z hzz))
 obtain⟨b,hb,hR2,hB2⟩:=h2 enc W base spare held fuel (cs.drop (P.cellsOf t)) xs (by rw[List.length_drop];omega) (by simpa using hx) (fun i u hi=>by
  have:=ht (i+1) u hi
  simp only[List.take_succ_cons,List.map_cons,List.sum_cons,List.getElem?_cons_succ] at this
  rw[List.drop_drop]
  exact this) (fun z hzz=>hz z (by simp only[List.map_cons,DataW.weightsEach];exact List.mem_append_right _ hzz))
 have hat:(k a).length=P.cellsOf t:=by rw[←ha,List.length_take];omega
 refine⟨(a,b),?_,Qem (Qel (fun i c hi hc => ?_) hR) (Qel (fun i c hi hc => ?_) hR2),hB,hB2⟩
 ·rw[List.length_append,←hb,hat,List.length_drop];omega
 ·simp only[Nat.zero_add] at hc ⊢
  rw[List.getElem?_take] at hc
  split at hc
  ·exact hc
  ·cases hc
 ·simp only[Nat.zero_add] at hc ⊢
  rw[List.getElem?_drop] at hc
  rw[hat];exact hc
theorem Qa8 {P:Program}{α β:Type}{k:α→List T}{t:TypeId}{fs:Array Field}{ts:List TypeId}{B:α→Prop}{k':β→List T}(g:α→β){B':β→Prop}(hfg:∀x,k' (g x)=k x) (hB':∀x,B x→B' (g x)) (hu:P.underlying t=some (.struct fs)) (hts:fs.toList.map (·.type)=ts)
  (hoff:(List.range fs.size).all (fun i=>(fs[i]?).all fun x=>x.offset==((ts.take i).map P.cellsOf).sum)=true) (hcells:P.cellsOf t=(ts.map P.cellsOf).sum) (h:OpensL P k ts B):Opens P k' t B':=by
 intro H enc W base spare held fuel cs d p ht hz
 obtain⟨xs,n,_,hx,hl,hxl,hg⟩:=DataW.trod_struct hu ht
 obtain⟨rfl,_⟩:=Prod.mk.inj hx
 have hlen:ts.length=fs.size:=by rw[←hts];simp
 obtain⟨x,hK,hR,hB⟩:=h enc W base spare held n cs xs (by rw[hl,hcells]) (by rw[hxl,hlen]) (fun i u hi=>by
  rw[←hts,List.getElem?_map] at hi
  obtain⟨fl,hf,rfl⟩:=Option.map_eq_some_iff.1 hi
  have hf2:fs[i]? = some fl:=by simpa using hf
  have hi2:i<fs.size:=(Array.getElem?_eq_some_iff.1 hf2).1
  have ho:=List.all_eq_true.1 hoff i (by simpa using hi2)
  rw[hf2] at ho
  simp only[Option.all_some,beq_iff_eq] at ho
  rw[←ho]
  exact hg i fl hf2) (fun z hzz=>hz z (by simp only[DataW.weights,hu,hts];exact hzz))
 exact⟨g x,by rw[hfg];exact hK,by rw[hfg];exact hR,hB' x hB⟩
theorem arg_agg {ρ:Nat→Value}{C:View}{r:List T}{cs:Array Value}(hl:cs.toList.length=r.length) (hr:repRow C r (fun i=>cs.toList[i]?) 0):relA ρ C (.agg (ts r)) (.agg cs):=by
 have:=Qce (ρ:=ρ) (agg:=true) (r:=r) (y := .agg (ts r)) (cs:=cs.toList) rfl hl hr
 simpa[valOf] using this
theorem arg_one {ρ:Nat→Value}{C:View}{t:T}{v:Value}(hr:repRow C [t] (fun i=>[v][i]?) 0):relA ρ C (.t t) v:=by
 simp only[repRow] at hr
 obtain⟨⟨c,h1,_,h2⟩,_⟩:=hr
 simp at h1;subst h1
 simpa only[relA] using h2
theorem view_full {ρ:Nat→Value}{W:World}:view (fun _=>False) (own ρ (ofO [])) W=full W:=by
 funext b o
 unfold view full
 rw[if_neg]
 rintro (⟨i,h,_⟩|h)
 ·simp[ofO] at h
 ·exact h
theorem Con.calls {P:Program}{f:FuncId}{xs:List A}{u:Value}{r:A}(h:Con P f xs [] (fun r' os=>r'=r∧os=[])) (hr:∀ρ C u',relA ρ C r u'→u'=u){W:World}{us:List Value}(hu:relAs (fun _ => .tuple #[]) (full W) xs us):
  Calls P f us.toArray W fun e w'=>e = .returned u∧RowKit.Below W.heap.size W w':=by
 refine(h.out (fun _=>False) (fun _ => .tuple #[]) W us ⟨fun i o hi=>by simp[ofO] at hi,fun i j b hi=>by simp[ofO] at hi,fun b hb=>by obtain⟨i,h,_⟩:=hb;simp[ofO] at h,fun b hb=>hb.elim⟩ (by rw[view_full];exact hu)).mono ?_
 rintro e w' ⟨r',os',σ,u',⟨rfl,rfl⟩,he,h1,h2,h3,_⟩
 exact⟨by rw[he,hr _ _ _ h2],h3.os,h3.tape,h3.output,h3.size,fun b hb=>h3.block b hb fun⟨i,hi,_⟩=>by simp[ofO] at hi⟩
end Go.Ab
