import Derived.Test.YtjlkmdmaimednaaGreatAbC
import Derived.Laws.Small
import Derived.Laws.Slices
import Derived.IntWalk
set_option linter.unusedVariables false
set_option linter.unusedSimpArgs false
namespace Go.Ab
variable {P:Program} {B:Base} {s:St} {a:Act} {w:World} {ρ:Nat→Value}
def VOk (P:Program)(B:Base)(s:St)(a:Act)(w:World)(ρ:Nat→Value)(r:Sem Value)(x:A):Prop:=
 ∃u,r.run P w = .ok u w∧relA ρ (view B.hid (own ρ s.objs) w) x u
theorem vals_spec (h:Rel B s a w ρ){xs:List Operand}(hv:vals s xs=true):∀x∈xs,a.eval x=evV s x:=by
 intro x hx
 have h1:=List.all_eq_true.1 hv x hx
 obtain⟨v,h2⟩:=Option.isSome_iff_exists.1 h1
 rw[evV,h2]
 exact val?_eq _ _ _ h2 (h.opd x)
theorem Qdo (h:Rel B s a w ρ){o:Oper}{p:List Prop}{x:A}(hv:vStill P o s=some (p,x)):
  ∃u,(execOp a.eval o).run P w = .ok (.value u) w∧relA ρ (view B.hid (own ρ s.objs) w) x u:=by
 unfold vStill at hv
 split at hv
 ·rename_i hc
  rw[Bool.and_eq_true] at hc
  split at hv
  ·rename_i u hu
   simp only[Option.some.injEq,Prod.mk.injEq] at hv
   obtain⟨_,rfl⟩:=hv
   refine⟨u,?_,relA_ofVal u⟩
   rw[execOp_congr (ρ':=evV s) o ?_ fun x hx=>vals_spec h hc.1 x (by simpa using hx)]
   ·exact Qdg _ _ w hu
   ·intro cs b e
    have:=hc.2
    rw[e] at this;simp[notSelect] at this
  ·cases hv
 ·cases hv
theorem Qfk {ρ:Nat→Value}{C:View}{xs:List A}{us:List Value}(h:relAs ρ C xs us) (n:Nat):relAs ρ C (xs.take n) (us.take n):=by
 refine Qdr (by simp[Qaj h]) fun j x u hx hu => ?_
 rw[List.getElem?_take] at hx hu
 split at hx
 ·rename_i hj
  simp only[hj,if_true] at hu
  obtain⟨u',h1,h2⟩:=Qaz h hx
  rw[h1] at hu;cases hu;exact h2
 ·cases hx
theorem Qcy {ρ:Nat→Value}{C:View}{xs:List A}{us:List Value}(h:relAs ρ C xs us) (n:Nat):relAs ρ C (xs.drop n) (us.drop n):=by
 refine Qdr (by simp[Qaj h]) fun j x u hx hu => ?_
 rw[List.getElem?_drop] at hx hu
 obtain⟨u',h1,h2⟩:=Qaz h hx
 rw[h1] at hu;cases hu;exact h2
theorem aggT_true {t:TypeId}(h:aggT P t=true):∃d,P.underlying t=some d∧d.isRow=true:=by
 unfold aggT at h
 split at h
 ·rename_i fs hu;exact⟨_,hu,rfl⟩
 ·rename_i n e hu;exact⟨_,hu,rfl⟩
 ·cases h
theorem sizeT_some {t:TypeId}{n:Nat}(h:sizeT P t=n) (hn:0<n):(P.info? t).map (·.size)=some n:=by
 unfold sizeT at h
 split at h
 ·rename_i i hi;simp[hi,h]
 ·omega
theorem isAgg_row {w:World}{t:TypeId}{d:TypeDesc}(hu:P.underlying t=some d) (hd:d.isRow=true):(isAgg t).run P w = .ok true w:=by
 unfold isAgg
 rw[Sem.run_bind,run_underlying hu w]
 cases d<;>simp_all
theorem isAgg_one {w:World}{t:TypeId}{d:TypeDesc}(hu:P.underlying t=some d) (hd:d.isRow=false):(isAgg t).run P w = .ok false w:=by
 unfold isAgg
 rw[Sem.run_bind,run_underlying hu w]
 cases d<;>simp_all
theorem aggT_false {t:TypeId}{d:TypeDesc}(hu:P.underlying t=some d) (h:¬ aggT P t=true):d.isRow=false:=by
 unfold aggT at h
 rw[hu] at h
 cases d<;>simp_all
theorem run_load {w:World}{ad:Addr}{u:Value}(h:w.cell? ad=some u):(load ad).run P w = .ok u w:=by
 simp only[load,Sem.run,h]
theorem run_loadVar_one {w:World}{b o:Nat}{t:TypeId}{u:Value}{d:TypeDesc}(hu:P.underlying t=some d) (hd:d.isRow=false) (h:w.cell? ⟨b,o,none⟩=some u):
  (loadVar t ⟨b,o,none⟩).run P w = .ok u w:=by
 have hagg:=isAgg_one (w:=w) hu hd
 have hl:=run_load (P:=P) h
 simp only[loadVar,Sem.run_bind,hagg,Result.andThen_ok,Bool.false_eq_true,if_false]
 exact hl
theorem Qex {C:View}{t:TypeId}{xs:List A}{y:A}{b off:Nat}{us:List Value}{d:TypeDesc}(hd:P.underlying t=some d) (hp:pick P t xs=some y) (hr:relAs ρ C xs us)
  (hc:w.rangeAt b off us):∃u,(loadVar t ⟨b,off,none⟩).run P w = .ok u w∧relA ρ C y u:=by
 unfold pick at hp
 split at hp
 ·rename_i ha
  split at hp
  ·rename_i hl
   simp only[Option.some.injEq] at hp
   subst hp
   have hl:(xs.take (sizeT P t)).length=sizeT P t:=by simpa using hl
   obtain⟨d,h1,h2⟩:=aggT_true ha
   have hus:(us.take (sizeT P t)).length=sizeT P t:=by
    rw[List.length_take] at hl ⊢;rw[Qaj hr];exact hl
   have hi:(P.info? t).map (·.size)=some (us.take (sizeT P t)).length:=by
    rw[hus]
    unfold Program.underlying at h1
    unfold sizeT
    cases hq:P.info? t with
    |none=>simp[hq] at h1
    |some i=>simp
   refine⟨.agg (us.take (sizeT P t)).toArray,run_loadVar_mid w b off t _ d (fun j v hv=>hc j v ?_) h1 h2 hi,?_⟩
   ·rw[List.getElem?_take] at hv;split at hv
    ·exact hv
    ·cases hv
   ·simp only[relA];exact⟨_,rfl,by simpa using Qfk hr _⟩
  ·cases hp
 ·rename_i ha
  cases xs with
  |nil=>simp at hp
  |cons x xs=>
   simp at hp;subst hp
   simp only[relAs] at hr
   obtain⟨u,us',rfl,h1,_⟩:=hr
   exact⟨u,run_loadVar_one hd (aggT_false hd ha) (by simpa using hc 0 u (by simp)),h1⟩
theorem row_list {C:View}:∀{r:List T}{V:Nat→Option Value}{off:Nat},repRow C r V off→∃us:List Value,relAs ρ C (ts r) us∧∀(j:Nat) v,us[j]? = some v→V (off+j)=some v
 |[],V,off,_=>⟨[],by simp[ts,relAs],by simp⟩
 |t::r,V,off,h=>by
  simp only[repRow] at h
  obtain⟨⟨c,h1,_,h2⟩,h3⟩:=h
  obtain⟨us,h4,h5⟩:=row_list h3
  refine⟨c::us,?_,fun j v hv => ?_⟩
  ·simp only[ts,List.map_cons,relAs];exact⟨c,us,rfl,by simpa only[relA] using h2,h4⟩
  ·match j,hv with
   |0,hv=>simp at hv;subst hv;simpa using h1
   |j+1,hv=>have:=h5 j v (by simpa using hv);rwa [Nat.add_assoc,Nat.add_comm 1 j] at this
theorem Qfl (t:TypeId) (ad:Addr):Instr.loadAt t (.pointer (some ad))=loadVar t ad:=rfl
theorem vLoad_sound (h:Rel B s a w ρ){t:TypeId}{d:TypeDesc}(hd:P.underlying t=some d){x:Operand}{hh:Hint}{p:List Prop}{y:A}(hv:vLoad P t x hh s=some (p,y)) (hp:AllP p):
  VOk P B s a w ρ (Instr.loadAt t (a.eval x)) y:=by
 have hx:=h.opd x
 unfold vLoad at hv
 split at hv
 ·rename_i i off he
  rw[he] at hx
  simp only[relA] at hx
  obtain⟨b,h1,h2⟩:=hx
  split at hv
  ·rename_i xs ho
   simp only[Option.map_eq_some_iff,Prod.mk.injEq] at hv
   obtain⟨y',h3,_,rfl⟩:=hv
   obtain⟨b',cur,e,h4,h5,h6⟩:=h.heap.obj i _ ho
   rw[h1] at h4;cases h4
   unfold VOk
   rw[h2,Qfl]
   refine Qex hd h3 (Qcy h6 off) fun j v hj => ?_
   rw[List.getElem?_drop] at hj
   rw[cell_of_row w b (off+j) cur e (0,0) h5];simpa using hj
  ·cases hv
 ·rename_i i k m off he
  rw[he] at hx
  simp only[relA] at hx
  obtain⟨b,n,cap,h1,h2⟩:=hx
  split at hv
  ·rename_i m' rows n' r ho
   split at hv
   ·rename_i hm
    have hm:m=m':=by simpa using hm
    subst hm
    simp only[Option.map_eq_some_iff,Prod.mk.injEq] at hv
    obtain⟨y',h3,rfl,rfl⟩:=hv
    rcases h.heap.obj i _ ho with⟨h4,_⟩|⟨b',cap',cur,e,h4,h5,h6,h7,h8,h9,_⟩
    ·subst h4;simp[AllP] at hp
    ·rw[h1] at h4;cases h4
     unfold VOk
     rw[h2,Qfl]
     obtain⟨us,h10,h11⟩:=row_list (ρ:=ρ) (Qax h9 hp).2
     refine Qex hd h3 (Qcy h10 off) fun j v hj => ?_
     rw[List.getElem?_drop] at hj
     have:=h11 (off+j) v hj
     rw[cell_of_row w b (k*m+off+j) cur e (0,0) h5,←this]
     congr 1;omega
   ·cases hv
  ·cases hv
 ·rename_i cs he
  rw[he] at hx
  simp only[relA,rep] at hx
  obtain⟨b,off,h1,h2⟩:=hx
  simp only[Option.map_eq_some_iff,Prod.mk.injEq] at hv
  obtain⟨y',h3,rfl,rfl⟩:=hv
  obtain⟨us,h4,h5⟩:=row_list (ρ:=ρ) h2
  unfold VOk
  rw[h1,Qfl]
  exact Qex hd h3 h4 fun j v hj=>(Qae.1 (h5 j v hj)).2.2
 ·cases hv
theorem fieldT_spec {t:TypeId}{f:Nat}{fd:Field}(h:fieldT P t f=some fd):∃fs,P.underlying t=some (.struct fs)∧fs[f]? = some fd:=by
 unfold fieldT at h
 split at h
 ·rename_i fs hu;exact⟨fs,hu,h⟩
 ·cases h
theorem run_sizeT {t:TypeId}{n:Nat}(h:sizeT P t=n) (hn:0<n):(sizeOf t).run P w = .ok n w:=by
 have:=sizeT_some h hn
 simp only[Option.map_eq_some_iff] at this
 obtain⟨i,h1,h2⟩:=this
 simp[sizeOf,typeInfo,h1,h2]
theorem Qd8 {t:TypeId}{f:Nat}{fd:Field}(h:fieldT P t f=some fd) (hz:sizeT P fd.type≠0) (ad:Addr):
  (Instr.fieldAt t (.pointer (some ad)) f).run P w = .ok (.pointer (some (ad.add fd.offset))) w:=by
 obtain⟨fs,h1,h2⟩:=fieldT_spec h
 simp[Instr.fieldAt,run_underlying h1,h2,Instr.sureAddr,fieldPlace,run_sizeT (P:=P) (w:=w) rfl (Nat.pos_of_ne_zero hz),hz]
theorem Qf4 (h:Rel B s a w ρ){t:TypeId}{x:Operand}{f:Nat}{p:List Prop}{y:A}(hv:vFieldAddr P t x f s=some (p,y)):VOk P B s a w ρ (Instr.fieldAt t (a.eval x) f) y:=by
 have hx:=h.opd x
 unfold vFieldAddr at hv
 split at hv
 ·rename_i fd hf
  split at hv
  ·cases hv
  ·rename_i hz
   have hz:sizeT P fd.type≠0:=by simpa using hz
   split at hv
   ·rename_i i off he
    rw[he] at hx;simp only[relA] at hx
    obtain⟨b,h1,h2⟩:=hx
    cases hv
    refine⟨_,by rw[h2];exact Qd8 hf hz _,?_⟩
    simp only[relA];exact⟨b,h1,by rw[Addr.add_mid]⟩
   ·rename_i i k m off he
    rw[he] at hx;simp only[relA] at hx
    obtain⟨b,n,cap,h1,h2⟩:=hx
    cases hv
    refine⟨_,by rw[h2];exact Qd8 hf hz _,?_⟩
    simp only[relA];exact⟨b,n,cap,h1,by rw[Addr.add_mid];congr 3;omega⟩
   ·rename_i cs he
    rw[he] at hx;simp only[relA,rep] at hx
    obtain⟨b,off,h1,h2⟩:=hx
    cases hv
    refine⟨_,by rw[h1];exact Qd8 hf hz _,?_⟩
    simp only[relA,rep];exact⟨b,off+fd.offset,by rw[Addr.add_mid],repRow_drop _ h2⟩
   ·cases hv
 ·cases hv
theorem vField_sound (h:Rel B s a w ρ){t:TypeId}{x:Operand}{f:Nat}{p:List Prop}{y:A}(hv:vField P t x f s=some (p,y))
  (hd:∀fd,fieldT P t f=some fd→(P.underlying fd.type).isSome=true):VOk P B s a w ρ (Instr.field t (a.eval x) f) y:=by
 have hx:=h.opd x
 unfold vField at hv
 split at hv
 ·rename_i fd xs hf he
  rw[he] at hx;simp only[relA] at hx
  obtain⟨cs,h1,h2⟩:=hx
  simp only[Option.map_eq_some_iff,Prod.mk.injEq] at hv
  obtain⟨y',h3,_,rfl⟩:=hv
  obtain⟨fs,h4,h5⟩:=fieldT_spec hf
  obtain⟨d,h6⟩:=Option.isSome_iff_exists.1 (hd fd hf)
  have h7:=Qcy h2 fd.offset
  unfold pick at h3
  split at h3
  ·rename_i ha
   split at h3
   ·rename_i hl
    cases h3
    obtain⟨d',h8,h9⟩:=aggT_true ha
    have hagg:=isAgg_row (w:=w) h8 h9
    have hsz:(sizeOf fd.type).run P w = .ok (sizeT P fd.type) w:=by
     unfold Program.underlying at h8
     unfold sizeT sizeOf typeInfo
     cases hq:P.info? fd.type with
     |none=>simp[hq] at h8
     |some i=>simp[hq]
    refine⟨.agg (cs.extract fd.offset (fd.offset+sizeT P fd.type)),by rw[h1];simp[Instr.field,run_underlying h4,h5,asAgg,part,hagg,hsz],?_⟩
    simp only[relA]
    refine⟨_,rfl,?_⟩
    have:=Qfk h7 (sizeT P fd.type)
    rw[List.take_drop] at this
    simpa[Array.toList_extract,List.extract_eq_take_drop,Nat.add_sub_cancel_left,List.take_drop] using this
   ·cases h3
  ·rename_i ha
   have hagg:=isAgg_one (w:=w) h6 (aggT_false h6 ha)
   rw[List.head?_eq_getElem?] at h3
   obtain⟨u,h8,h9⟩:=Qaz h7 h3
   rw[List.getElem?_drop,Nat.add_zero] at h8
   refine⟨u,?_,h9⟩
   rw[h1];simp[Instr.field,run_underlying h4,h5,asAgg,part,hagg,show cs[fd.offset]? = some u by simpa using h8]
 ·cases hv
theorem elemSize_spec {t:TypeId}{m:Nat}(h:elemSize P t=some m):∃e i,P.underlying t=some (.slice e)∧P.info? e=some i∧i.size=m:=by
 unfold elemSize at h
 split at h
 ·rename_i e hu
  simp only[Option.map_eq_some_iff] at h
  obtain⟨i,h1,h2⟩:=h
  exact⟨e,i,hu,h1,h2⟩
 ·cases h
theorem indexAt_run {t e:TypeId}{i:TypeInfo}(h1:P.underlying t=some (.slice e)) (h2:P.info? e=some i) (ad:Addr) (len cap n:Nat) (k:IntKind) (hn:n<len):
  (Instr.indexAt t (.slice (some ad) len cap) (.int k (n:Int))).run P w = .ok (.pointer (some (ad.add (n*i.size)))) w:=by
 simp[Instr.indexAt,run_underlying h1,asIntOf,sizeOf,typeInfo,h2]
 intro h3;omega
theorem Qf5 (h:Rel B s a w ρ){t:TypeId}{x ix:Operand}{hh:Hint}{p:List Prop}{y:A}(hv:vIndexAddr P t x ix hh s=some (p,y)) (hp:AllP p):
  VOk P B s a w ρ (Instr.indexAt t (a.eval x) (a.eval ix)) y:=by
 have hx:=h.opd x
 have hix:=h.opd ix
 unfold vIndexAddr at hv
 split at hv
 ·rename_i m k i hm hei
  obtain⟨e,inf,h1,h2,rfl⟩:=elemSize_spec hm
  rw[hei] at hix;simp only[relA,rep] at hix
  split at hv
  ·rename_i m' rows n r he
   rw[he] at hx;simp only[relA,rep] at hx
   split at hv
   ·rename_i hmm
    have hmm:inf.size=m':=by simpa using hmm
    subst hmm
    cases hv
    obtain⟨rfl,hr⟩:=hp
    have hlt:n<rows.length:=(List.getElem?_eq_some_iff.1 hr).1
    rcases hx with⟨h3,_⟩|⟨b,off,cap,h3,h4,h5,h6⟩
    ·rw[h3] at hlt;simp at hlt
    ·refine⟨_,by rw[h3,hix];exact indexAt_run h1 h2 _ _ _ _ _ hlt,?_⟩
     simp only[relA,rep]
     exact⟨b,off+n*inf.size,by rw[Addr.add_mid],(Qax h6 hr).2⟩
   ·cases hv
  ·rename_i j n he
   rw[he] at hx;simp only[relA] at hx
   split at hv
   ·rename_i m' rows ho
    split at hv
    ·rename_i hmm
     have hmm:inf.size=m':=by simpa using hmm
     subst hmm
     cases hv
     obtain⟨rfl,hlt⟩:=hp
     rcases h.heap.obj j _ ho with⟨h3,_⟩|⟨b,cap,cur,e',h3,h4,h5,_⟩
     ·rw[h3] at hlt;simp at hlt
     ·refine⟨_,by rw[hx,h3,hix];exact indexAt_run h1 h2 _ _ _ _ _ hlt,?_⟩
      simp only[relA]
      exact⟨b,rows.length,cap,h3,by rw[Addr.add_mid];simp⟩
    ·cases hv
   ·cases hv
  ·cases hv
 ·cases hv
theorem vIndex_sound (h:Rel B s a w ρ){t:TypeId}{x ix:Operand}{hh:Hint}{p:List Prop}{y:A}(hv:vIndex P t x ix hh s=some (p,y)) (hp:AllP p):
  VOk P B s a w ρ (Instr.index t (a.eval x) (a.eval ix)) y:=by
 have hx:=h.opd x
 have hix:=h.opd ix
 unfold vIndex at hv
 split at hv
 ·rename_i b k i n c hu he hei
  rw[he] at hx;rw[hei] at hix
  simp only[relA,rep] at hx hix
  cases hv
  obtain⟨rfl,h1⟩:=hp
  simp only[Option.map_eq_some_iff] at h1
  obtain⟨u,h2,h3⟩:=h1
  refine⟨.int .u8 c,?_,by simp[relA,rep]⟩
  have h4:b[n]? = some u:=by
   have hlt:n<b.data.size:=(Array.getElem?_eq_some_iff.1 h2).1
   have hlt':n<b.size:=hlt
   rw[getElem?_pos b n hlt']
   have:b.data[n]? = some b.data[n]:=Array.getElem?_eq_getElem hlt
   rw[this] at h2
   exact h2
  rw[hx,hix];simp[Instr.index,run_underlying hu,asIntOf,h4,h3]
 ·cases hv
theorem vExtract_sound (h:Rel B s a w ρ){x:Operand}{i:Nat}{p:List Prop}{y:A}(hv:vExtract x i s=some (p,y)):VOk P B s a w ρ (Instr.extract (a.eval x) i) y:=by
 have hx:=h.opd x
 unfold vExtract at hv
 split at hv
 ·rename_i xs he
  rw[he] at hx;simp only[relA] at hx
  obtain⟨cs,h1,h2⟩:=hx
  simp only[Option.map_eq_some_iff,Prod.mk.injEq] at hv
  obtain⟨y',h3,_,rfl⟩:=hv
  obtain⟨u,h4,h5⟩:=Qaz h2 h3
  refine⟨u,?_,h5⟩
  rw[h1];simp[Instr.extract,show cs[i]? = some u by simpa using h4]
 ·cases hv
end Go.Ab
