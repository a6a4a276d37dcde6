import Derived.Test.YtjlkmdmaimednaaGreatAbKy
import Derived.MapKept
import Derived.Maps.RangeRun
set_option linter.unusedVariables false
set_option linter.unusedSimpArgs false
namespace Go.Ab
variable {P:Program} {B:Base} {s:St} {a:Act} {w:World} {ρ:Nat→Value}
def getE (kd:TypeDesc)(k:Value):List Ent→Nat→Option (Option (Nat×Ent))
 |[],_=>some none
 |e::es,i=>match samK kd k e.key with
  |some true=>some (some (i,e))
  |some false=>getE kd k es (i+1)
  |none=>none
theorem getE_nk (kd:TypeDesc) (k:Value):∀(es:List Ent)(i:Nat),getE (nk kd) k es i=getE kd k es i
 |[],_=>rfl
 |e::es,i=>by
  unfold getE
  rw[samK_nk,getE_nk kd k es (i+1)]
def toVal (agg:Bool)(r:List T):Option A:=if agg then some (.agg (ts r)) else if r.length==1 then(ts r).head? else none
theorem Qce {C:View}{agg:Bool}{r:List T}{y:A}{cs:List Value}(h:toVal agg r=some y) (hl:cs.length=r.length) (hr:repRow C r (fun i=>cs[i]?) 0):relA ρ C y (valOf agg cs):=by
 have key:∀(r:List T)(cs:List Value)(k:Nat)(V:Nat→Option Value),cs.length=r.length→(∀i,V (k+i)=cs[i]?)→repRow C r V k→relAs ρ C (ts r) cs:=by
  intro r
  induction r with
  |nil=>intro cs k V hl _ _;simp at hl;subst hl;simp[ts,relAs]
  |cons t r ih=>
   intro cs k V hl hV hr
   cases cs with
   |nil=>simp at hl
   |cons c cs=>
    simp only[repRow] at hr
    obtain⟨⟨c',h1,_,h3⟩,h4⟩:=hr
    have:=hV 0
    simp only[Nat.add_zero,List.getElem?_cons_zero] at this
    rw[h1] at this;cases this
    simp only[ts,List.map_cons,relAs]
    exact⟨c,cs,rfl,by simpa only[relA] using h3,ih cs (k+1) V (by simpa using hl) (fun i=>by have:=hV (i+1);rw[←Nat.add_assoc,Nat.add_right_comm] at this;simpa using this) h4⟩
 have h2:=key r cs 0 _ hl (fun i=>by simp) hr
 unfold toVal at h
 cases agg with
 |true=>simp only[if_true] at h;cases h;simp only[relA,valOf,if_true];exact⟨cs.toArray,rfl,by simpa using h2⟩
 |false=>
  simp only[Bool.false_eq_true,if_false] at h
  split at h
  ·cases hx:ts r with
   |nil=>rw[hx] at h;cases h
   |cons x xs=>
    rw[hx] at h h2;cases h
    simp only[relAs] at h2
    obtain⟨u,us,rfl,h4,_⟩:=h2
    simpa[valOf] using h4
  ·cases h
theorem Qb4 {C:View}{agg:Bool}{kd:TypeDesc}{k:Value}:∀(es:List Ent)(l:List MapEntry)(i:Nat)(r:Option (Nat×Ent)),relE C agg es l→getE kd k es i=some r→
  match r with
  |none=>findK kd k l i=some none
  |some (n,e)=>∃me cs,i≤n∧findK kd k l i=some (some (n,me.val))∧l[n-i]? = some me∧es[n-i]? = some e∧me.key=e.key∧me.born=e.born∧me.val=valOf agg cs∧cs.length=e.val.length∧repRow C e.val (fun i=>cs[i]?) 0∧samK kd k me.key=some true
 |[],l,i,r,hr,h=>by
  simp only[relE] at hr;subst hr
  simp only[getE] at h;cases h
  simp[findK]
 |x::xs,l,i,r,hr,h=>by
  simp only[relE] at hr
  obtain⟨e,es',cs,rfl,h2,h3,h4,h5,h6,h7⟩:=hr
  simp only[getE] at h
  split at h
  ·rename_i hs
   cases h
   exact⟨e,cs,Nat.le_refl _,by simp[findK,h2,hs],by simp,by simp,h2,h3,h4,h5,h6,by rw[h2];exact hs⟩
  ·rename_i hs
   have ih:=Qb4 xs es' (i+1) r h7 h
   cases r with
   |none=>simp only[findK,h2,hs];exact ih
   |some q=>
    obtain⟨me,cs',g1,g2,g3,g4,g5⟩:=ih
    have e1:q.1-i=(q.1-(i+1))+1:=by omega
    refine⟨me,cs',by omega,?_,?_,?_,g5⟩
    ·simp only[findK,h2,hs];exact g2
    ·rw[e1];simpa using g3
    ·rw[e1];simpa using g4
  ·cases h
def entA (P:Program)(t:TypeId):Option (TypeDesc×TypeId×TypeInfo):=
 match P.underlying t with
 |some (.map kt et)=>match P.underlying kt,P.info? et with
  |some kd,some i=>if keyT P kt kd then some (kd,et,i) else none
  |_,_=>none
 |_=>none
def vLookup0 (P:Program)(t:TypeId)(m k:Operand)(ok:Bool)(h:Hint)(s:St):Option (List Prop×A):=
 match entA P t,ev s m,(ev s k).val?,h with
 |some (kd,et,i),.ref j,some kv,.got r=>match s.objs j with
  |some (.map agg _ es)=>if keyFits P kd kv then match r with
   |some (_,e)=>(toVal agg e.val).map fun y=>([getE kd kv es 0=some r],if ok then .tup [y,.t (boo true)] else y)
   |none=>i.zero.map fun z=>([getE kd kv es 0=some none],if ok then .tup [ofVal1 z,.t (boo false)] else ofVal1 z)
   else none
  |_=>none
 |_,_,_,_=>none
theorem Qe6 {t:TypeId}{kd:TypeDesc}{et:TypeId}{i:TypeInfo}(h:entA P t=some (kd,et,i)):∃kt,P.underlying t=some (.map kt et)∧P.underlying kt=some kd∧P.info? et=some i∧keyT P kt kd=true:=by
 unfold entA at h
 split at h
 ·rename_i kt et' hu
  split at h
  ·rename_i kd' i' h1 h2
   split at h
   ·rename_i hp;cases h;exact⟨kt,hu,h1,h2,hp⟩
   ·cases h
  ·cases h
 ·cases h
theorem run_zero {t:TypeId}{i:TypeInfo}{z:Value}(hi:P.info? t=some i) (hz:i.zero=some z):(zeroValue t).run P w = .ok z w:=by
 simp[zeroValue,typeInfo,hi,hz]
theorem Qck (h:Rel B s a w ρ){t:TypeId}{m k:Operand}{ok:Bool}{hh:Hint}{p:List Prop}{y:A}(hv:vLookup0 P t m k ok hh s=some (p,y)) (hp:AllP p):
  ∃u,(Instr.lookup t (a.eval m) (a.eval k) ok).run P w = .ok u w∧relA ρ (view B.hid (own ρ s.objs) w) y u:=by
 unfold vLookup0 at hv
 split at hv
 ·rename_i kd et i j kv r he hm hk
  split at hv
  ·rename_i agg clock es ho
   split at hv
   ·rename_i hfit
    obtain⟨kt,hu,hkt,hi,hplain⟩:=Qe6 he
    obtain⟨q,ents,h1,h2,h3⟩:=h.heap.obj j _ ho
    have em:=h.opd m
    rw[hm] at em;simp only[relA] at em
    have ek:=val?_eq _ _ _ hk (h.opd k)
    have base:∀a',findK kd kv ents.toList 0=some a'→(Instr.lookup t (a.eval m) (a.eval k) ok).run P w=(match a' with|some (_,v)=>(.ok (if ok then .tuple #[v,.bool true] else v) w:Result Value)|none=>(zeroValue et).run P w |>.andThen fun z w => .ok (if ok then .tuple #[z,.bool false] else z) w):=by
     intro a' ha
     rw[em,h1,ek]
     have hck:∀e,(Instr.checkKey e 10000 kt kv).run P w = .ok () w:=fun e=>Qds hkt hplain hfit e
     simp only[Instr.lookup,Sem.run_bind,run_underlying hu,Result.andThen,MapKept.run_getObj_map h2,Sem.run_pure,hck,Qb8 hkt hplain hfit ha]
     cases a' with
     |none=>simp only[Sem.run_bind];cases (zeroValue et).run P w<;>simp[Result.andThen]
     |some q=>simp
    split at hv
    ·rename_i n e
     simp only[Option.map_eq_some_iff] at hv
     obtain⟨y0,hy,hv⟩:=hv
     cases hv
     obtain⟨me,cs,_,g2,_,_,_,_,g7,g8,g9,_⟩:=Qb4 es _ 0 _ h3 hp
     have hr:=Qce (ρ:=ρ) hy g8 g9
     rw[←g7] at hr
     refine⟨_,base _ g2,?_⟩
     cases ok with
     |true=>simp only[if_true,relA];exact⟨#[me.val,.bool true],rfl,by simp[relAs,hr,relA,rep]⟩
     |false=>simpa using hr
    ·simp only[Option.map_eq_some_iff] at hv
     obtain⟨z,hz,hv⟩:=hv
     cases hv
     have g2:=Qb4 es _ 0 _ h3 hp
     have hb:=base _ g2
     simp only[run_zero hi hz,Result.andThen] at hb
     refine⟨_,hb,?_⟩
     cases ok with
     |true=>simp only[if_true,relA];exact⟨#[z,.bool false],rfl,by simp[relAs,Qa7,relA,rep]⟩
     |false=>simpa using Qa7 z
   ·cases hv
  ·cases hv
 ·cases hv
def LookE (kd:TypeDesc)(k:Value)(es:List Ent)(z row:List T)(b:Bool):Prop:=match getE kd k es 0 with
 |some (some (_,e))=>row=e.val∧b=true
 |some none=>row=z∧b=false
 |none=>False
theorem LookE_nk (kd:TypeDesc) (k:Value) (es:List Ent) (z row:List T) (b:Bool):LookE (nk kd) k es z row b=LookE kd k es z row b:=by unfold LookE;rw[getE_nk]
def aggV:Value→Bool
 |.agg _=>true
 |_=>false
theorem val_eta {z:Value}{agg:Bool}(h:(agg==aggV z)=true):z=valOf agg z.cells.toList:=by
 cases z<;>cases agg<;>simp_all [aggV,valOf,Value.cells]
theorem row_zero {C:View}:∀(cs:List Value)(k:Nat)(V:Nat→Option Value),(∀c∈cs,c.oneCell'=true)→(∀i,V (k+i)=cs[i]?)→repRow C (cs.map .v) V k
 |[],_,_,_,_=>by simp[repRow]
 |c::cs,k,V,h1,hV=>by
  simp only[List.map_cons,repRow]
  exact⟨⟨c,by simpa using hV 0,h1 c (by simp),by simp[rep]⟩,row_zero cs (k+1) V (fun x hx=>h1 x (by simp[hx])) fun i=>by
   rw[show k+1+i=k+(i+1) by omega];simpa using hV (i+1)⟩
def vLookupL (P:Program)(t:TypeId)(m k:Operand)(ok:Bool)(row:List T)(b:Bool)(s:St):Option (List Prop×A):=
 match entA P t,ev s m,(ev s k).val? with
 |some (kd,_,i),.ref j,some kv=>match s.objs j,i.zero with
  |some (.map agg _ es),some z=>if keyFits P kd kv&&(agg==aggV z)&&z.cells.toList.all (·.oneCell') then
    (toVal agg row).map fun y=>([LookE (nk kd) kv es (z.cells.toList.map .v) row b],if ok then .tup [y,.t (boo b)] else y)
   else none
  |_,_=>none
 |_,_,_=>none
def vLookup (P:Program)(t:TypeId)(m k:Operand)(ok:Bool)(h:Hint)(s:St):Option (List Prop×A):=
 match h with
 |.look row b=>vLookupL P t m k ok row b s
 |h=>vLookup0 P t m k ok h s
theorem vLookup_sound (h:Rel B s a w ρ){t:TypeId}{m k:Operand}{ok:Bool}{hh:Hint}{p:List Prop}{y:A}(hv:vLookup P t m k ok hh s=some (p,y)) (hp:AllP p):
  ∃u,(Instr.lookup t (a.eval m) (a.eval k) ok).run P w = .ok u w∧relA ρ (view B.hid (own ρ s.objs) w) y u:=by
 unfold vLookup at hv
 split at hv
 ·rename_i row b
  unfold vLookupL at hv
  split at hv
  ·rename_i kd et i j kv he hm hk
   split at hv
   ·rename_i agg clock es z ho hz
    split at hv
    ·rename_i hc
     simp only[Bool.and_eq_true] at hc
     obtain⟨⟨hfit,hagg⟩,hone⟩:=hc
     simp only[Option.map_eq_some_iff] at hv
     obtain⟨y0,hy,hv⟩:=hv
     cases hv
     have hp:LookE (nk kd) kv es (z.cells.toList.map .v) row b:=hp
     rw[LookE_nk] at hp
     unfold LookE at hp
     split at hp
     ·rename_i n e hg
      obtain⟨rfl,rfl⟩:=hp
      exact Qck (P:=P) h (hh := .got (some (n,e))) (p:=[getE kd kv es 0=some (some (n,e))]) (by simp only[vLookup0,he,hm,hk,ho,hfit,if_true,hy,Option.map_some]) hg
     ·rename_i hg
      obtain⟨rfl,rfl⟩:=hp
      obtain⟨u,h1,h2⟩:=Qck (P:=P) h (t:=t) (m:=m) (k:=k) (ok:=ok) (hh := .got none) (p:=[getE kd kv es 0=some none]) (y:=if ok then .tup [ofVal1 z,.t (boo false)] else ofVal1 z) (by simp only[vLookup0,he,hm,hk,ho,hfit,if_true,hz,Option.map_some]) hg
      refine⟨u,h1,?_⟩
      have hzv:∀u,relA ρ (view B.hid (own ρ s.objs) w) (ofVal1 z) u→relA ρ (view B.hid (own ρ s.objs) w) y0 u:=by
       intro u hu
       have e1:u=z:=by
        unfold ofVal1 at hu
        split at hu
        ·rename_i cs
         simp only[relA] at hu
         obtain⟨ds,rfl,h3⟩:=hu
         have:∀(l us:List Value),relAs ρ (view B.hid (own ρ s.objs) w) (l.map fun c => .t (.v c)) us→us=l:=by
          intro l
          induction l with
          |nil=>intro us hh;simpa[relAs] using hh
          |cons x l ih=>intro us hh;simp only[List.map_cons,relAs] at hh;obtain⟨u1,us1,rfl,h4,h5⟩:=hh;simp only[relA,rep] at h4;rw[h4,ih _ h5]
         have:=this _ _ h3
         congr 1;exact Array.toList_inj.1 this
        ·simpa[relA,rep] using hu
       subst e1
       have:=Qce (ρ:=ρ) (C:=view B.hid (own ρ s.objs) w) hy (cs:=u.cells.toList) (by simp) (row_zero _ 0 _ (fun c hc=>List.all_eq_true.1 hone c hc) fun i=>by simp)
       rw[←val_eta hagg] at this;exact this
      cases ok with
      |true=>
       simp only[if_true,relA] at h2 ⊢
       obtain⟨cs,rfl,h3⟩:=h2
       refine⟨cs,rfl,?_⟩
       simp only[relAs] at h3 ⊢
       obtain⟨u1,us1,h4,h5,h6⟩:=h3
       exact⟨u1,us1,h4,hzv u1 h5,h6⟩
      |false=>exact hzv u (by simpa using h2)
     ·exact hp.elim
    ·cases hv
   ·cases hv
  ·cases hv
 ·exact Qck h hv hp
def relEnt (C:View)(agg:Bool)(x:Ent)(me:MapEntry):Prop:=∃cs,me.key=x.key∧me.born=x.born∧me.val=valOf agg cs∧cs.length=x.val.length∧repRow C x.val (fun i=>cs[i]?) 0
theorem Qch {C:View}{agg:Bool}:∀{es:List Ent}{l:List MapEntry},relE C agg es l↔es.length=l.length∧∀(i:Nat)(x:Ent)(me:MapEntry),es[i]? = some x→l[i]? = some me→relEnt C agg x me
 |[],l=>by
  simp only[relE]
  constructor
  ·rintro rfl;simp
  ·rintro ⟨h,_⟩;exact List.eq_nil_of_length_eq_zero (by simpa using h.symm)
 |x::es,[]=>by
  simp only[relE]
  constructor
  ·rintro ⟨e,es',cs,h,_⟩;cases h
  ·rintro ⟨h,_⟩;simp at h
 |x::es,me::l=>by
  simp only[relE]
  constructor
  ·rintro ⟨e,es',cs,h,h2,h3,h4,h5,h6,h7⟩
   cases h
   obtain⟨g1,g2⟩:=(Qch (es:=es) (l:=l)).1 h7
   refine⟨by simp[g1],fun i y m hy hm => ?_⟩
   cases i with
   |zero=>simp at hy hm;subst hy;subst hm;exact⟨cs,h2,h3,h4,h5,h6⟩
   |succ i=>exact g2 i y m (by simpa using hy) (by simpa using hm)
  ·rintro ⟨h,g⟩
   obtain⟨cs,h2,h3,h4,h5,h6⟩:=g 0 x me (by simp) (by simp)
   exact⟨me,l,cs,rfl,h2,h3,h4,h5,h6,(Qch (es:=es) (l:=l)).2 ⟨by simpa using h,fun i y m hy hm=>g (i+1) y m (by simpa using hy) (by simpa using hm)⟩⟩
def vTs (s:St)(agg:Bool)(x:A):Option (List T):=
 match agg,x with
 |true,.agg xs=>if xs.all (one s) then toTs xs else none
 |false,.t t=>if one s (.t t) then some [t] else none
 |_,_=>none
theorem row_of_ts {C:View}:∀(r:List T)(cs:List Value)(k:Nat)(V:Nat→Option Value),relAs ρ C (ts r) cs→(∀c∈cs,c.oneCell'=true)→(∀i,V (k+i)=cs[i]?)→repRow C r V k∧cs.length=r.length
 |[],cs,k,V,h,_,_=>by simp only[ts,List.map_nil,relAs] at h;subst h;simp[repRow]
 |t::r,cs,k,V,h,ho,hV=>by
  simp only[ts,List.map_cons,relAs] at h
  obtain⟨c,cs',rfl,h1,h2⟩:=h
  have ih:=row_of_ts r cs' (k+1) V h2 (fun c hc=>ho c (by simp[hc])) (fun i=>by have:=hV (i+1);rw[←Nat.add_assoc,Nat.add_right_comm] at this;simpa using this)
  refine⟨?_,by simp[ih.2]⟩
  simp only[repRow]
  exact⟨⟨c,by simpa using hV 0,ho c (by simp),by simpa only[relA] using h1⟩,ih.1⟩
theorem vTs_spec (h:Rel B s a w ρ){agg:Bool}{x:A}{r:List T}{u:Value}{C:View}(hx:vTs s agg x=some r) (hr:relA ρ C x u):∃cs,u=valOf agg cs∧cs.length=r.length∧repRow C r (fun i=>cs[i]?) 0:=by
 unfold vTs at hx
 split at hx
 ·rename_i xs
  split at hx
  ·rename_i ha
   simp only[relA] at hr
   obtain⟨cs,rfl,h2⟩:=hr
   obtain⟨h3,h4⟩:=Qc1 h (x := .agg xs) (u := .agg cs) (xs:=xs) (C:=C) (by simp[cells?,ha]) (by simp only[relA];exact⟨cs,rfl,h2⟩)
   simp only[Value.cells] at h3 h4
   have e:=Qe0 hx h3
   rw[e] at h3
   have:=row_of_ts (ρ:=ρ) r cs.toList 0 (fun i=>cs.toList[i]?) h3 h4 (fun i=>by simp)
   exact⟨cs.toList,by simp[valOf],this.2,this.1⟩
  ·cases hx
 ·rename_i t
  split at hx
  ·rename_i ha
   cases hx
   have:=one_spec h ha hr
   simp only[relA] at hr
   exact⟨[u],by simp[valOf],rfl,by simp only[repRow];exact⟨⟨u,by simp,this,hr⟩,trivial⟩⟩
  ·cases hx
 ·cases hx
def mapAt (s:St)(x:A):Option (Nat×Bool×Nat×List Ent):=match x with
 |.ref j=>match s.objs j with|some (.map agg clock es)=>some (j,agg,clock,es)|_=>none
 |_=>none
theorem Qbg (h:Rel B s a w ρ){x:A}{j:Nat}{agg:Bool}{clock:Nat}{es:List Ent}{u:Value}{C:View}(hm:mapAt s x=some (j,agg,clock,es)) (hr:relA ρ C x u):
  s.objs j=some (.map agg clock es)∧∃r ents,u = .map (some r)∧ρ j = .map (some r)∧w.heap[r]? = some (.map ents clock)∧relE (view B.hid (own ρ s.objs) w) agg es ents.toList:=by
 unfold mapAt at hm
 split at hm
 ·rename_i i
  split at hm
  ·rename_i g c l ho
   cases hm
   obtain⟨r,ents,h1,h2,h3⟩:=h.heap.obj _ _ ho
   simp only[relA] at hr
   exact⟨ho,r,ents,by rw[hr,h1],h1,h2,h3⟩
  ·cases hm
 ·cases hm
theorem Rel.setMap (h:Rel B s a w ρ){j r:Nat}{agg:Bool}{clock clock':Nat}{es es':List Ent}{ents ents':Array MapEntry}(hj:s.objs j=some (.map agg clock es)) (hr:ρ j = .map (some r)) (hb:w.heap[r]? = some (.map ents clock))
  (hrel:∀C',(view B.hid (own ρ s.objs) w).le C'→relE C' agg es' ents'.toList):Rel B (s.set j (.map agg clock' es')) a { w with heap:=w.heap.setIfInBounds r (.map ents' clock') } ρ:=by
 have hlt:r<w.heap.size:=Qa6 hb
 refine h.set (w':={ w with heap:=w.heap.setIfInBounds r (.map ents' clock') }) j _ (.map agg clock' es') hj rfl rfl rfl (by simp) (fun b _ hne => ?_) (fun C' hC=>⟨r,ents',hr,by simp[hlt],hrel C' hC⟩)
 have:r≠b:=fun e=>hne (by rw[hr,e];rfl)
 simp[Array.getElem?_setIfInBounds,this]
theorem relE_set {C:View}{agg:Bool}{es:List Ent}{ents:Array MapEntry}{n:Nat}{e e':Ent}{f:MapEntry→MapEntry}(h:relE C agg es ents.toList) (he:es[n]? = some e) (hf:∀me,relEnt C agg e me→relEnt C agg e' (f me)):
  relE C agg (es.set n e') (ents.modify n f).toList:=by
 obtain⟨g1,g2⟩:=Qch.1 h
 refine Qch.2 ⟨by simpa using g1,fun i x me hx hm => ?_⟩
 simp only[Array.getElem?_toList,Array.getElem?_modify] at hm
 by_cases hi:n=i
 ·subst hi
  rw[List.getElem?_set] at hx
  simp only[if_true] at hx
  split at hx
  ·cases hx
   simp only[if_true,Option.map_eq_some_iff] at hm
   obtain⟨m0,h1,rfl⟩:=hm
   exact hf m0 (g2 n e m0 he (by simpa using h1))
  ·cases hx
 ·rw[List.getElem?_set,if_neg hi] at hx
  rw[if_neg hi] at hm
  exact g2 i x me hx (by simpa using hm)
theorem relE_push {C:View}{agg:Bool}{es:List Ent}{ents:Array MapEntry}{e:Ent}{me:MapEntry}(h:relE C agg es ents.toList) (he:relEnt C agg e me):relE C agg (es++[e]) (ents.push me).toList:=by
 obtain⟨g1,g2⟩:=Qch.1 h
 rw[Array.toList_push]
 refine Qch.2 ⟨by simp[g1],fun i x m hx hm => ?_⟩
 by_cases hi:i<es.length
 ·rw[List.getElem?_append_left hi] at hx
  rw[List.getElem?_append_left (by rw[←g1];exact hi)] at hm
  exact g2 i x m hx hm
 ·rw[List.getElem?_append_right (by omega)] at hx
  rw[List.getElem?_append_right (by rw[←g1];omega),←g1] at hm
  cases hk:i-es.length with
  |zero=>rw[hk] at hx hm;simp at hx hm;subst hx;subst hm;exact he
  |succ k=>rw[hk] at hx;simp at hx
def eMapUpdate0 (P:Program)(t:TypeId)(m k v:Operand)(h:Hint)(s:St):Option (List Prop×St):=
 match entA P t,mapAt s (ev s m),(ev s k).val?,h with
 |some (kd,_,_),some (j,agg,clock,es),some kv,.got r=>match vTs s agg (ev s v) with
  |some r'=>if keyFits P kd kv then match r with
   |some (n,e)=>some ([getE kd kv es 0=some (some (n,e))],s.set j (.map agg clock (es.set n ⟨kv,e.born,r'⟩)))
   |none=>some ([getE kd kv es 0=some none],s.set j (.map agg (clock+1) (es++[⟨kv,clock,r'⟩])))
   else none
  |none=>none
 |_,_,_,_=>none
theorem Qbo (h:Rel B s a w ρ){t:TypeId}{m k v:Operand}{hh:Hint}{p:List Prop}{s':St}(hv:eMapUpdate0 P t m k v hh s=some (p,s')) (hp:AllP p):
  ∃w',(Instr.mapUpdate t (a.eval m) (a.eval k) (a.eval v)).run P w = .ok () w'∧Rel B s' a w' ρ:=by
 unfold eMapUpdate0 at hv
 split at hv
 ·rename_i kd et i j agg clock es kv r he hm hk
  split at hv
  ·rename_i r' hvt
   split at hv
   ·rename_i hfit
    obtain⟨kt,hu,hkt,hi,hplain⟩:=Qe6 he
    obtain⟨ho,b,ents,em,hρ,hb,hrel⟩:=Qbg h hm (h.opd m)
    have ek:=val?_eq _ _ _ hk (h.opd k)
    obtain⟨cs,ev1,ev2,ev3⟩:=vTs_spec h hvt (h.opd v)
    have hck:∀e,(Instr.checkKey e 10000 kt kv).run P w = .ok () w:=fun e=>Qds hkt hplain hfit e
    split at hv
    ·rename_i n e
     cases hv
     obtain⟨me,cs',_,g2,g3,g4,g5,g6,_,_,_,g9⟩:=Qb4 es _ 0 _ hrel hp
     simp only[Nat.sub_zero] at g3 g4
     refine⟨_,?_,h.setMap ho hρ hb fun C' hC=>relE_set (f:=fun e=>{ e with key:=kv,val:=a.eval v }) (Qbh hC _ _ hrel) g4 fun m' ⟨_,_,q2,_⟩=>⟨cs,rfl,q2,ev1,ev2,Qa1 hC _ _ _ 0 (fun _ _ x=>x) ev3⟩⟩
     rw[em,ek]
     have g3':ents[n]? = some me:=by simpa using g3
     simp only[Instr.mapUpdate,Sem.run_bind,run_underlying hu,Result.andThen,MapKept.run_getObj_map hb,hck,Qb8 hkt hplain hfit g2,g3',Option.map_some,Option.getD_some,Instr.keyThatStays,sameBits_of g9,if_true,Sem.run_pure,MapKept.run_setObj_map _ hb]
    ·cases hv
     have g2:=Qb4 es _ 0 _ hrel hp
     refine⟨_,?_,h.setMap ho hρ hb fun C' hC=>relE_push (me:={ key:=kv,val:=a.eval v,born:=clock }) (Qbh hC _ _ hrel) ⟨cs,rfl,rfl,ev1,ev2,Qa1 hC _ _ _ 0 (fun _ _ x=>x) ev3⟩⟩
     rw[em,ek]
     simp only[Instr.mapUpdate,Sem.run_bind,run_underlying hu,Result.andThen,MapKept.run_getObj_map hb,hck,Qb8 hkt hplain hfit g2,MapKept.run_setObj_map _ hb]
   ·cases hv
  ·cases hv
 ·cases hv
def PutE (kd:TypeDesc)(k:Value)(row:List T)(clock:Nat)(es:List Ent)(clock':Nat)(es':List Ent):Prop:=match getE kd k es 0 with
 |some (some (n,e))=>clock'=clock∧es'=es.set n ⟨k,e.born,row⟩
 |some none=>clock'=clock+1∧es'=es++[⟨k,clock,row⟩]
 |none=>False
theorem PutE_nk (kd:TypeDesc) (k:Value) (row:List T) (clock:Nat) (es:List Ent) (clock':Nat) (es':List Ent):PutE (nk kd) k row clock es clock' es'=PutE kd k row clock es clock' es':=by unfold PutE;rw[getE_nk]
def eMapUpdateL (P:Program)(t:TypeId)(m k v:Operand)(clock':Nat)(es':List Ent)(s:St):Option (List Prop×St):=
 match entA P t,mapAt s (ev s m),(ev s k).val? with
 |some (kd,_,_),some (j,agg,clock,es),some kv=>match vTs s agg (ev s v) with
  |some r'=>if keyFits P kd kv then some ([PutE (nk kd) kv r' clock es clock' es'],s.set j (.map agg clock' es')) else none
  |none=>none
 |_,_,_=>none
def eMapUpdate (P:Program)(t:TypeId)(m k v:Operand)(h:Hint)(s:St):Option (List Prop×St):=
 match h with
 |.putM clock' es'=>eMapUpdateL P t m k v clock' es' s
 |h=>eMapUpdate0 P t m k v h s
theorem Qf8 (h:Rel B s a w ρ){t:TypeId}{m k v:Operand}{hh:Hint}{p:List Prop}{s':St}(hv:eMapUpdate P t m k v hh s=some (p,s')) (hp:AllP p):
  ∃w',(Instr.mapUpdate t (a.eval m) (a.eval k) (a.eval v)).run P w = .ok () w'∧Rel B s' a w' ρ:=by
 unfold eMapUpdate at hv
 split at hv
 ·rename_i clock' es'
  unfold eMapUpdateL at hv
  split at hv
  ·rename_i kd et i j agg clock es kv he hm hk
   split at hv
   ·rename_i r' hvt
    split at hv
    ·rename_i hfit
     cases hv
     have hp:PutE (nk kd) kv r' clock es clock' es':=hp
     rw[PutE_nk] at hp
     unfold PutE at hp
     split at hp
     ·rename_i n e hg
      obtain⟨rfl,rfl⟩:=hp
      exact Qbo h (hh := .got (some (n,e))) (p:=[getE kd kv es 0=some (some (n,e))]) (by simp only[eMapUpdate0,he,hm,hk,hvt,hfit,if_true]) hg
     ·rename_i hg
      obtain⟨rfl,rfl⟩:=hp
      exact Qbo h (hh := .got none) (p:=[getE kd kv es 0=some none]) (by simp only[eMapUpdate0,he,hm,hk,hvt,hfit,if_true]) hg
     ·exact hp.elim
    ·cases hv
   ·cases hv
  ·cases hv
 ·exact Qbo h hv hp
def eMakeMap (P:Program)(t:TypeId)(dst:Option Tmp)(h:Hint)(s:St):Option (List Prop×St):=
 match dst,P.underlying t with
 |some d,some (.map _ et)=>if idOk s (newId h d) then some ([],(s.mv none (newId h d) (.map (aggT P et) 0 [])).put d (.ref (newId h d))) else none
 |_,_=>none
theorem eMakeMap_sound (h:Rel B s a w ρ){o:Oper}{t:TypeId}(ho:o.op = .makeMap t none){hh:Hint}{p:List Prop}{s':St}(hv:eMakeMap P t o.dst hh s=some (p,s')) (hd:∀d,o.dst=some d→d<B.n):EOk P B s' a w o:=by
 unfold eMakeMap at hv
 split at hv
 ·rename_i d kt et hdst hu
  split at hv
  ·rename_i hid
   cases hv
   have hrun:(execOp a.eval o).run P w = .ok (.value (.map (some w.heap.size))) (w.alloc (.map #[] 0)):=by
    simp[execOp,ho,Instr.makeMap]
   have h1:=h.mv (w':=w.alloc (.map #[] 0)) none (newId hh d) (.map (aggT P et) 0 []) (.map (some w.heap.size)) (Qan hid) rfl rfl rfl (by simp)
    (fun b hb _=>heap_alloc_old w _ hb) (fun b hb => .inl (by simp[blockOf] at hb;omega)) (fun C' hC=>⟨w.heap.size, #[],rfl,heap_alloc_new w _,by simp[relE]⟩)
   have h2:=h1.put (hd d hdst) (x := .ref (newId hh d)) (u := .map (some w.heap.size)) (by simp only[relA];simp)
   rw[←hdst] at h2
   exact⟨_,_,_,.inl hrun,h2⟩
  ·cases hv
 ·cases hv
def eMapEntry0 (P:Program)(t:TypeId)(m k:Operand)(dst:Option Tmp)(h:Hint)(s:St):Option (List Prop×St):=
 match entA P t,mapAt s (ev s m),(ev s k).val?,h with
 |some (kd,_,i),some (j,agg,clock,es),some kv,.got r=>if keyFits P kd kv then match r with
   |some (n,e)=>(toVal agg e.val).map fun y=>([getE kd kv es 0=some (some (n,e))],(s.set j (.map agg clock (es.set n ⟨kv,e.born,e.val⟩))).putO dst (.tup [y,.t (i64 e.born)]))
   |none=>match i.zero with
    |some z=>if agg==aggV z&&z.cells.toList.all (·.oneCell') then some ([getE kd kv es 0=some none],(s.set j (.map agg (clock+1) (es++[⟨kv,clock,z.cells.toList.map .v⟩]))).putO dst (.tup [ofVal1 z,.t (i64 clock)])) else none
    |none=>none
   else none
 |_,_,_,_=>none
theorem Qby (h:Rel B s a w ρ){o:Oper}{t:TypeId}{m k:Operand}(ho':o.op = .mapEntry t m k){hh:Hint}{p:List Prop}{s':St}(hv:eMapEntry0 P t m k o.dst hh s=some (p,s')) (hp:AllP p) (hd:∀d,o.dst=some d→d<B.n):EOk P B s' a w o:=by
 unfold eMapEntry0 at hv
 split at hv
 ·rename_i kd et i j agg clock es kv r he hm hk
  split at hv
  ·rename_i hfit
   obtain⟨kt,hu,hkt,hi,hplain⟩:=Qe6 he
   obtain⟨ho,b,ents,em,hρ,hb,hrel⟩:=Qbg h hm (h.opd m)
   have ek:=val?_eq _ _ _ hk (h.opd k)
   have hck:∀e,(Instr.checkKey e 10000 kt kv).run P w = .ok () w:=fun e=>Qds hkt hplain hfit e
   split at hv
   ·rename_i n e
    simp only[Option.map_eq_some_iff] at hv
    obtain⟨y,hy,hv⟩:=hv
    cases hv
    obtain⟨me,cs',_,g2,g3,g4,g5,g6,g7,g8,g10,g9⟩:=Qb4 es _ 0 _ hrel hp
    simp only[Nat.sub_zero] at g3 g4
    have g3':ents[n]? = some me:=by simpa using g3
    have hr:=Qce (ρ:=ρ) hy g8 g10
    rw[←g7] at hr
    have hset:=h.setMap (clock':=clock) ho hρ hb fun C' hC=>relE_set (f:=fun e=>{ e with key:=kv }) (e':=⟨kv,e.born,e.val⟩) (Qbh hC _ _ hrel) g4 fun m' ⟨cs,_,q2,q3,q4,q5⟩=>⟨cs,rfl,q2,q3,q4,q5⟩
    have hle:(view B.hid (own ρ s.objs) w).le (view B.hid (own ρ (s.set j (.map agg clock (es.set n ⟨kv,e.born,e.val⟩))).objs) { w with heap:=w.heap.setIfInBounds b (.map (ents.modify n fun e=>{ e with key:=kv }) clock) }):=by
     intro b' o' c hc
     rw[Qae] at hc ⊢
     have hne:b≠b':=fun e=>hc.1 ⟨j,by simp[ho],by rw[hρ,e];rfl⟩
     refine⟨fun⟨q,hq,hqb⟩=>hc.1 ⟨q,?_,hqb⟩,hc.2.1,?_⟩
     ·simp only[St.set] at hq
      split at hq
      ·rename_i hqj;have:q=j:=by simpa using hqj
       rw[this];simp[ho]
      ·exact hq
     ·rw[←hc.2.2];exact World.cell?_of_block (by simp[hne])
    refine⟨.tuple #[me.val,goInt e.born],_,ρ,.inl ?_,hset.putO hd ?_⟩
    ·simp only[execOp,ho']
     rw[em,ek]
     simp only[Instr.mapEntry,Sem.run_bind,run_underlying hu,Result.andThen,MapKept.run_getObj_map hb,hck,Qb8 hkt hplain hfit g2,g3',Option.map_some,Option.getD_some,Instr.keyThatStays,sameBits_of g9,if_true,Sem.run_pure,MapKept.run_setObj_map _ hb,g6]
    ·simp only[relA]
     exact⟨#[me.val,goInt e.born],rfl,by simp only[relAs];exact⟨_,_,rfl,Qav hle _ _ hr,_,_,rfl,by simp[relA,rep,goInt],rfl⟩⟩
   ·split at hv
    ·rename_i z hz
     split at hv
     ·rename_i hagg
      simp only[Bool.and_eq_true] at hagg
      cases hv
      have g2:=Qb4 es _ 0 _ hrel hp
      have hz1:∀c∈z.cells.toList,c.oneCell'=true:=fun c hc=>List.all_eq_true.1 hagg.2 c hc
      have hset:=h.setMap (clock':=clock+1) ho hρ hb fun C' hC=>relE_push (me:={ key:=kv,val:=z,born:=clock }) (e:=⟨kv,clock,z.cells.toList.map .v⟩) (Qbh hC _ _ hrel) ⟨z.cells.toList,rfl,rfl,val_eta hagg.1,by simp,row_zero _ 0 _ hz1 (fun i=>by simp)⟩
      refine⟨.tuple #[z,goInt clock],_,ρ,.inl ?_,hset.putO hd ?_⟩
      ·simp only[execOp,ho']
       rw[em,ek]
       simp only[Instr.mapEntry,Sem.run_bind,run_underlying hu,Result.andThen,MapKept.run_getObj_map hb,hck,Qb8 hkt hplain hfit g2,run_zero hi hz,Sem.run_pure,MapKept.run_setObj_map _ hb]
      ·simp only[relA]
       exact⟨#[z,goInt clock],rfl,by simp only[relAs];exact⟨_,_,rfl,Qa7 z,_,_,rfl,by simp[relA,rep,goInt],rfl⟩⟩
     ·cases hv
    ·cases hv
  ·cases hv
 ·cases hv
def EntE (kd:TypeDesc)(k:Value)(z:List T)(clock:Nat)(es:List Ent)(row:List T)(st clock':Nat)(es':List Ent):Prop:=match getE kd k es 0 with
 |some (some (n,e))=>row=e.val∧st=e.born∧clock'=clock∧es'=es.set n ⟨k,e.born,e.val⟩
 |some none=>row=z∧st=clock∧clock'=clock+1∧es'=es++[⟨k,clock,z⟩]
 |none=>False
theorem EntE_nk (kd:TypeDesc) (k:Value) (z:List T) (clock:Nat) (es:List Ent) (row:List T) (st clock':Nat) (es':List Ent):EntE (nk kd) k z clock es row st clock' es'=EntE kd k z clock es row st clock' es':=by unfold EntE;rw[getE_nk]
theorem toVal_zero {z:Value}{agg:Bool}(h:(agg==aggV z)=true):toVal agg (z.cells.toList.map .v)=some (ofVal1 z):=by
 cases z<;>cases agg<;>simp_all [aggV,toVal,ofVal1,Value.cells,ts]
def eMapEntryL (P:Program)(t:TypeId)(m k:Operand)(dst:Option Tmp)(row:List T)(st clock':Nat)(es':List Ent)(s:St):Option (List Prop×St):=
 match entA P t,mapAt s (ev s m),(ev s k).val? with
 |some (kd,_,i),some (j,agg,clock,es),some kv=>match i.zero with
  |some z=>if keyFits P kd kv&&(agg==aggV z)&&z.cells.toList.all (·.oneCell') then
    (toVal agg row).map fun y=>([EntE (nk kd) kv (z.cells.toList.map .v) clock es row st clock' es'],(s.set j (.map agg clock' es')).putO dst (.tup [y,.t (i64 st)]))
   else none
  |none=>none
 |_,_,_=>none
def eMapEntry (P:Program)(t:TypeId)(m k:Operand)(dst:Option Tmp)(h:Hint)(s:St):Option (List Prop×St):=
 match h with
 |.entM row st clock' es'=>eMapEntryL P t m k dst row st clock' es' s
 |h=>eMapEntry0 P t m k dst h s
theorem eMapEntry_sound (h:Rel B s a w ρ){o:Oper}{t:TypeId}{m k:Operand}(ho':o.op = .mapEntry t m k){hh:Hint}{p:List Prop}{s':St}(hv:eMapEntry P t m k o.dst hh s=some (p,s')) (hp:AllP p) (hd:∀d,o.dst=some d→d<B.n):EOk P B s' a w o:=by
 unfold eMapEntry at hv
 split at hv
 ·rename_i row st clock' es'
  unfold eMapEntryL at hv
  split at hv
  ·rename_i kd et i j agg clock es kv he hm hk
   split at hv
   ·rename_i z hz
    split at hv
    ·rename_i hc
     simp only[Bool.and_eq_true] at hc
     obtain⟨⟨hfit,hagg⟩,hone⟩:=hc
     simp only[Option.map_eq_some_iff] at hv
     obtain⟨y,hy,hv⟩:=hv
     cases hv
     have hp:EntE (nk kd) kv (z.cells.toList.map .v) clock es row st clock' es':=hp
     rw[EntE_nk] at hp
     unfold EntE at hp
     split at hp
     ·rename_i n e hg
      obtain⟨rfl,rfl,rfl,rfl⟩:=hp
      exact Qby h ho' (hh := .got (some (n,e))) (p:=[getE kd kv es 0=some (some (n,e))]) (by simp only[eMapEntry0,he,hm,hk,hfit,if_true,hy,Option.map_some]) hg hd
     ·rename_i hg
      obtain⟨rfl,rfl,rfl,rfl⟩:=hp
      rw[toVal_zero hagg] at hy;cases hy
      exact Qby h ho' (hh := .got none) (p:=[getE kd kv es 0=some none]) (by simp only[eMapEntry0,he,hm,hk,hfit,if_true,hz,hagg,hone,Bool.and_self]) hg hd
     ·exact hp.elim
    ·cases hv
   ·cases hv
  ·cases hv
 ·exact Qby h ho' hv hp hd
def eEntryStore0 (m st v:Operand)(h:Hint)(s:St):Option (List Prop×St):=
 match mapAt s (ev s m),ev s st,h with
 |some (j,agg,clock,es),.t (.v (.int _ b)),.got (some (n,e))=>match vTs s agg (ev s v) with
  |some r'=>some ([es.findIdx? (fun x=>(x.born:Int)==b)=some n∧es[n]? = some e],s.set j (.map agg clock (es.set n ⟨e.key,e.born,r'⟩)))
  |none=>none
 |_,_,_=>none
theorem findIdx_rel {C:View}{agg:Bool}{b:Int}:∀(es:List Ent)(l:List MapEntry),relE C agg es l→l.findIdx? (fun e=>(e.born:Int)==b)=es.findIdx? (fun x=>(x.born:Int)==b)
 |[],l,h=>by simp only[relE] at h;subst h;rfl
 |x::es,l,h=>by
  simp only[relE] at h
  obtain⟨e,es',cs,rfl,h2,h3,h4,h5,h6,h7⟩:=h
  rw[List.findIdx?_cons,List.findIdx?_cons,h3,findIdx_rel es es' h7]
theorem Qci (h:Rel B s a w ρ){t:TypeId}{m st v:Operand}{hh:Hint}{p:List Prop}{s':St}(hv:eEntryStore0 m st v hh s=some (p,s')) (hp:AllP p):
  ∃w',(Instr.entryStore t (a.eval m) (a.eval st) (a.eval v)).run P w = .ok () w'∧Rel B s' a w' ρ:=by
 unfold eEntryStore0 at hv
 split at hv
 ·rename_i j agg clock es q b n e hm hst
  split at hv
  ·rename_i r' hvt
   cases hv
   obtain⟨hp1,hp2⟩:=hp
   obtain⟨ho,r,ents,em,hρ,hb,hrel⟩:=Qbg h hm (h.opd m)
   have es':=h.opd st
   rw[hst] at es';simp only[relA,rep] at es'
   obtain⟨cs,ev1,ev2,ev3⟩:=vTs_spec h hvt (h.opd v)
   refine⟨_,?_,h.setMap ho hρ hb fun C' hC=>relE_set (f:=fun e=>{ e with val:=a.eval v }) (Qbh hC _ _ hrel) hp2 fun m' ⟨_,q1,q2,_⟩=>⟨cs,q1,q2,ev1,ev2,Qa1 hC _ _ _ 0 (fun _ _ x=>x) ev3⟩⟩
   rw[em,es']
   have hf:ents.findIdx? (fun e=>(e.born:Int)==b)=some n:=by
    have:ents.findIdx? (fun e=>(e.born:Int)==b)=ents.toList.findIdx? (fun e=>(e.born:Int)==b):=by cases ents;simp
    rw[this,findIdx_rel es _ hrel];exact hp1
   simp only[Instr.entryStore,Sem.run_bind,Result.andThen,MapKept.run_getObj_map hb,asInt,asIntOf,Sem.run_pure,hf,MapKept.run_setObj_map _ hb]
  ·cases hv
 ·cases hv
def StoE (st:Int)(row:List T)(es es':List Ent):Prop:=∃n e,es.findIdx? (fun x=>(x.born:Int)==st)=some n∧es[n]? = some e∧es'=es.set n ⟨e.key,e.born,row⟩
def eEntryStoreL (m st v:Operand)(clock':Nat)(es':List Ent)(s:St):Option (List Prop×St):=
 match mapAt s (ev s m),ev s st with
 |some (j,agg,clock,es),.t (.v (.int _ b))=>match vTs s agg (ev s v) with
  |some r'=>some ([clock'=clock∧StoE b r' es es'],s.set j (.map agg clock' es'))
  |none=>none
 |_,_=>none
def eEntryStore (m st v:Operand)(h:Hint)(s:St):Option (List Prop×St):=
 match h with
 |.entS clock' es'=>eEntryStoreL m st v clock' es' s
 |h=>eEntryStore0 m st v h s
theorem Qft (h:Rel B s a w ρ){t:TypeId}{m st v:Operand}{hh:Hint}{p:List Prop}{s':St}(hv:eEntryStore m st v hh s=some (p,s')) (hp:AllP p):
  ∃w',(Instr.entryStore t (a.eval m) (a.eval st) (a.eval v)).run P w = .ok () w'∧Rel B s' a w' ρ:=by
 unfold eEntryStore at hv
 split at hv
 ·rename_i clock' es'
  unfold eEntryStoreL at hv
  split at hv
  ·rename_i j agg clock es q b hm hst
   split at hv
   ·rename_i r' hvt
    cases hv
    have hp:clock'=clock∧StoE b r' es es':=hp
    obtain⟨rfl,n,e,h1,h2,rfl⟩:=hp
    exact Qci h (hh := .got (some (n,e))) (p:=[es.findIdx? (fun x=>(x.born:Int)==b)=some n∧es[n]? = some e]) (by simp only[eEntryStore0,hm,hst,hvt]) ⟨h1,h2⟩
   ·cases hv
  ·cases hv
 ·exact Qci h hv hp
def eDelete0 (P:Program)(t:TypeId)(m k:Operand)(dst:Option Tmp)(h:Hint)(s:St):Option (List Prop×St):=
 match entA P t,mapAt s (ev s m),(ev s k).val?,h with
 |some (kd,_,_),some (j,agg,clock,es),some kv,.got r=>if keyFits P kd kv then match r with
   |some (n,e)=>some ([getE kd kv es 0=some (some (n,e))],(s.set j (.map agg clock (es.eraseIdx n))).putO dst (.tup []))
   |none=>some ([getE kd kv es 0=some none],(s.set j (.map agg clock es)).putO dst (.tup []))
   else none
 |_,_,_,_=>none
theorem relE_erase {C:View}{agg:Bool}:∀{es:List Ent}{l:List MapEntry}(n:Nat),relE C agg es l→relE C agg (es.eraseIdx n) (l.eraseIdx n)
 |[],l,n,h=>by simp only[relE] at h;subst h;simp[relE]
 |x::es,l,n,h=>by
  simp only[relE] at h
  obtain⟨e,es',cs,rfl,h2,h3,h4,h5,h6,h7⟩:=h
  cases n with
  |zero=>simpa using h7
  |succ n=>simp only[List.eraseIdx_cons_succ,relE];exact⟨e,_,cs,rfl,h2,h3,h4,h5,h6,relE_erase n h7⟩
theorem Qcl (h:Rel B s a w ρ){o:Oper}{t t2:TypeId}{m k:Operand}(ho':o.op = .call { callee := .builtin .delete,args := #[m,k],argTypes := #[t,t2] }){hh:Hint}{p:List Prop}{s':St}(hv:eDelete0 P t m k o.dst hh s=some (p,s')) (hp:AllP p) (hd:∀d,o.dst=some d→d<B.n):EOk P B s' a w o:=by
 unfold eDelete0 at hv
 split at hv
 ·rename_i kd et i j agg clock es kv r he hm hk
  split at hv
  ·rename_i hfit
   obtain⟨kt,hu,hkt,hi,hplain⟩:=Qe6 he
   obtain⟨ho,b,ents,em,hρ,hb,hrel⟩:=Qbg h hm (h.opd m)
   have ek:=val?_eq _ _ _ hk (h.opd k)
   have hck:∀e,(Instr.checkKey e 10000 kt kv).run P w = .ok () w:=fun e=>Qds hkt hplain hfit e
   have hexec:∀w',(Builtin.delete_ #[t,t2] o.type #[a.eval m,a.eval k]).run P w = .ok (.tuple #[]) w'→(execOp a.eval o).run P w = .ok (.value (.tuple #[])) w':=fun w' hr=>by
    simp[execOp,ho',resolve,invoke,builtin,hr]
   split at hv
   ·rename_i n e
    cases hv
    obtain⟨me,cs',_,g2,g3,g4,_⟩:=Qb4 es _ 0 _ hrel hp
    have hset:=h.setMap (es':=es.eraseIdx n) (ents':=ents.eraseIdxIfInBounds n) (clock':=clock) ho hρ hb fun C' hC=>by
     rw[Array.toList_eraseIdxIfInBounds];exact relE_erase n (Qbh hC _ _ hrel)
    refine⟨_,_,ρ,.inl (hexec _ ?_),hset.putO hd (x := .tup []) (u := .tuple #[]) (by simp only[relA];exact⟨#[],rfl,by simp[relAs]⟩)⟩
    rw[em,ek]
    simp[Builtin.delete_,Sem.run_bind,run_underlying hu,Result.andThen,MapKept.run_getObj_map hb,hck,Qb8 hkt hplain hfit g2,MapKept.run_setObj_map _ hb]
   ·cases hv
    have g2:=Qb4 es _ 0 _ hrel hp
    have hset:=h.setMap (es':=es) (ents':=ents) (clock':=clock) ho hρ hb fun C' hC=>Qbh hC _ _ hrel
    refine⟨_,_,ρ,.inl (hexec _ ?_),hset.putO hd (x := .tup []) (u := .tuple #[]) (by simp only[relA];exact⟨#[],rfl,by simp[relAs]⟩)⟩
    rw[em,ek]
    simp[Builtin.delete_,Sem.run_bind,run_underlying hu,Result.andThen,MapKept.run_getObj_map hb,hck,Qb8 hkt hplain hfit g2,MapKept.run_setObj_map _ hb]
  ·cases hv
 ·cases hv
def DelE (kd:TypeDesc)(k:Value)(es es':List Ent):Prop:=match getE kd k es 0 with
 |some (some (n,_))=>es'=es.eraseIdx n
 |some none=>es'=es
 |none=>False
theorem DelE_nk (kd:TypeDesc) (k:Value) (es es':List Ent):DelE (nk kd) k es es'=DelE kd k es es':=by unfold DelE;rw[getE_nk]
def eDeleteL (P:Program)(t:TypeId)(m k:Operand)(dst:Option Tmp)(es':List Ent)(s:St):Option (List Prop×St):=
 match entA P t,mapAt s (ev s m),(ev s k).val? with
 |some (kd,_,_),some (j,agg,clock,es),some kv=>if keyFits P kd kv then some ([DelE (nk kd) kv es es'],(s.set j (.map agg clock es')).putO dst (.tup [])) else none
 |_,_,_=>none
def eDelete (P:Program)(t:TypeId)(m k:Operand)(dst:Option Tmp)(h:Hint)(s:St):Option (List Prop×St):=
 match h with
 |.delM es'=>eDeleteL P t m k dst es' s
 |h=>eDelete0 P t m k dst h s
theorem eDelete_sound (h:Rel B s a w ρ){o:Oper}{t t2:TypeId}{m k:Operand}(ho':o.op = .call { callee := .builtin .delete,args := #[m,k],argTypes := #[t,t2] }){hh:Hint}{p:List Prop}{s':St}(hv:eDelete P t m k o.dst hh s=some (p,s')) (hp:AllP p) (hd:∀d,o.dst=some d→d<B.n):EOk P B s' a w o:=by
 unfold eDelete at hv
 split at hv
 ·rename_i es'
  unfold eDeleteL at hv
  split at hv
  ·rename_i kd et i j agg clock es kv he hm hk
   split at hv
   ·rename_i hfit
    cases hv
    have hp:DelE (nk kd) kv es es':=hp
    rw[DelE_nk] at hp
    unfold DelE at hp
    split at hp
    ·rename_i n e hg
     subst hp
     exact Qcl h ho' (hh := .got (some (n,e))) (p:=[getE kd kv es 0=some (some (n,e))]) (by simp only[eDelete0,he,hm,hk,hfit,if_true]) hg hd
    ·rename_i hg
     subst hp
     exact Qcl h ho' (hh := .got none) (p:=[getE kd kv es' 0=some none]) (by simp only[eDelete0,he,hm,hk,hfit,if_true]) hg hd
    ·exact hp.elim
   ·cases hv
  ·cases hv
 ·exact Qcl h ho' hv hp hd
def eRange (P:Program)(t:TypeId)(x:Operand)(dst:Option Tmp)(h:Hint)(s:St):Option (List Prop×St):=
 match dst,P.underlying t,mapAt s (ev s x) with
 |some d,some (.map _ _),some (j,_,clock,_)=>if idOk s (newId h d)&&newId h d != j then some ([],(s.mv none (newId h d) (.iter j clock [] clock)).put d (.at (newId h d) 0)) else none
 |_,_,_=>none
theorem eRange_sound (h:Rel B s a w ρ){o:Oper}{t:TypeId}{x:Operand}(ho':o.op = .range t x){hh:Hint}{p:List Prop}{s':St}(hv:eRange P t x o.dst hh s=some (p,s')) (hd:∀d,o.dst=some d→d<B.n):EOk P B s' a w o:=by
 unfold eRange at hv
 split at hv
 ·rename_i d kt et j agg clock es hdst hu hm
  split at hv
  ·rename_i hc
   simp only[Bool.and_eq_true,bne_iff_ne,ne_eq] at hc
   obtain⟨hid,hne⟩:=hc
   cases hv
   obtain⟨ho,r,ents,em,hρ,hb,hrel⟩:=Qbg h hm (h.opd x)
   have hrun:(execOp a.eval o).run P w = .ok (.value (.pointer (some ⟨w.heap.size,0,none⟩))) (w.alloc (.mapIter (some r) clock #[] clock)):=by
    simp only[execOp,ho']
    rw[em]
    simp[Instr.range,run_underlying hu,MapKept.run_getObj_map hb]
   have h1:=h.mv (w':=w.alloc (.mapIter (some r) clock #[] clock)) none (newId hh d) (.iter j clock [] clock) (.pointer (some ⟨w.heap.size,0,none⟩)) (Qan hid) rfl rfl rfl (by simp)
    (fun b hb _=>heap_alloc_old w _ hb) (fun b hb => .inl (by simp[blockOf] at hb;omega)) (fun C' hC=>⟨w.heap.size,r,rfl,heap_alloc_new w _,by simp[Ne.symm hne,hρ]⟩)
   have h2:=h1.put (hd d hdst) (x := .at (newId hh d) 0) (u := .pointer (some ⟨w.heap.size,0,none⟩)) (by simp only[relA];exact⟨w.heap.size,by simp,rfl⟩)
   rw[←hdst] at h2
   exact⟨_,_,_,.inl hrun,h2⟩
  ·cases hv
 ·cases hv
def eNext (x:Operand)(dst:Option Tmp)(h:Hint)(s:St):Option (List Prop×St):=
 match ev s x,h with
 |.at k 0,.got q=>match s.objs k with
  |some (.iter j since seen last)=>match mapAt s (.ref j) with
   |some (_,agg,clock,es)=>match q with
    |some (n,e)=>(toVal agg e.val).map fun y=>([(∀x∈es,x.born<since)∧since≤last∧es.filter (fun x => !seen.contains x.born)=[e]∧es[n]? = some e],(s.set k (.iter j since (seen++[e.born]) clock)).putO dst (.tup [.t (boo true),ofVal1 e.key,y]))
    |none=>some ([(∀x∈es,x.born<since)∧since≤last∧es.filter (fun x => !seen.contains x.born)=[]],s.putO dst (.tup [.t (boo false)]))
   |none=>none
  |_=>none
 |_,_=>none
theorem Qfu {C:View}{agg:Bool}{f:Nat→Bool}:∀{es:List Ent}{l:List MapEntry},relE C agg es l→relE C agg (es.filter fun x=>f x.born) (l.filter fun x=>f x.born)
 |[],l,h=>by simp only[relE] at h;subst h;simp[relE]
 |x::es,l,h=>by
  simp only[relE] at h
  obtain⟨e,es',cs,rfl,h2,h3,h4,h5,h6,h7⟩:=h
  have ih:=Qfu (f:=f) h7
  rw[List.filter_cons,List.filter_cons,h3]
  split
  ·simp only[relE];exact⟨e,_,cs,rfl,h2,h3,h4,h5,h6,ih⟩
  ·exact ih
theorem Rel.drew' (h:Rel B s a w ρ){w1:World}(h1:w1=w∨w1=w.drew):Rel B s a w1 ρ:=by
 rcases h1 with rfl|rfl
 ·exact h
 ·exact h.drewN 1
theorem eNext_sound (h:Rel B s a w ρ){o:Oper}{x:Operand}(ho':o.op = .next x false){hh:Hint}{p:List Prop}{s':St}(hv:eNext x o.dst hh s=some (p,s')) (hp:AllP p) (hd:∀d,o.dst=some d→d<B.n):EOk P B s' a w o:=by
 unfold eNext at hv
 split at hv
 ·rename_i k q hx
  split at hv
  ·rename_i j since seen last hk
   split at hv
   ·rename_i j' agg clock es hm
    have ex:=h.opd x
    rw[hx] at ex;simp only[relA] at ex
    obtain⟨b0,hb0,ex⟩:=ex
    obtain⟨b,r,h1,h2,h3⟩:=h.heap.obj k _ hk
    have hbb:b=b0:=by rw[h1] at hb0;cases hb0;rfl
    subst hbb
    obtain⟨ho,r',ents,em,hρ,hb,hrel⟩:=Qbg (u:=ρ j) (C:=view B.hid (own ρ s.objs) w) h hm (by simp only[relA])
    rw[h3] at em;cases em
    have hkeep:∀{q1:∀x∈es,x.born<since},∀x∈ents.toList,x.born<since:=by
     intro q1 y hy
     obtain⟨i,hi,rfl⟩:=List.mem_iff_getElem.1 hy
     obtain⟨g1,g2⟩:=Qch.1 hrel
     have hi':i<es.length:=by omega
     obtain⟨cs,_,g4,_⟩:=g2 i es[i] ents.toList[i] (by simp[hi']) (by simp[hi])
     rw[g4];exact q1 _ (List.getElem_mem hi')
    split at hv
    ·rename_i n e
     simp only[Option.map_eq_some_iff] at hv
     obtain⟨y,hy,hv⟩:=hv
     cases hv
     obtain⟨q1,q2,q3,q4⟩:=hp
     have hf:=Qfu (f:=fun n => !seen.contains n) hrel
     rw[q3] at hf
     rcases run_next_at (P:=P) w o.type b r since last seen.toArray ents clock h2 hb (hkeep (q1:=q1)) q2 with⟨g1,g2⟩|⟨me,hme,w1,hw1,hrun⟩
     ·exfalso
      simp only[relE] at hf
      obtain⟨e0,es0,cs0,g3,_⟩:=hf
      have:(leftOf ents seen.toArray).toList=ents.toList.filter (fun e => !seen.contains e.born):=by simp[leftOf]
      rw[←this] at g3
      have:=congrArg List.length g3
      simp at this;omega
     ·have hl:(leftOf ents seen.toArray).toList=ents.toList.filter (fun e => !seen.contains e.born):=by simp[leftOf]
      rw[hl] at hme
      simp only[relE] at hf
      obtain⟨e0,es0,cs,g3,g4,g5,g6,g7,g8,g9⟩:=hf
      rw[g9] at g3
      rw[g3] at hme
      simp only[List.mem_singleton] at hme
      subst hme
      have hrel1:=h.drew' hw1
      have hj1:w1.heap[b]? = some (.mapIter (some r) since seen.toArray last):=by rcases hw1 with rfl|rfl<;>exact h2
      have hlt:b<w1.heap.size:=Qa6 hj1
      have hset:=hrel1.set (w':=ChangeMaps.setBlock w1 b (.mapIter (some r) since (seen++[e.born]).toArray clock)) k _ (.iter j since (seen++[e.born]) clock) hk rfl rfl rfl (by simp[ChangeMaps.setBlock]) (fun b' _ hne=>by
       have:b≠b':=fun e=>hne (by rw[h1,e];rfl)
       simp[ChangeMaps.setBlock,this]) (fun C' hC=>⟨b,r,h1,by simp[ChangeMaps.setBlock,hlt],h3⟩)
      have hr:=Qce (ρ:=ρ) hy g7 g8
      rw[←g6] at hr
      have hle:(view B.hid (own ρ s.objs) w).le (view B.hid (own ρ (s.set k (.iter j since (seen++[e.born]) clock)).objs) (ChangeMaps.setBlock w1 b (.mapIter (some r) since (seen++[e.born]).toArray clock))):=by
       intro b' o' c hc
       rw[Qae] at hc ⊢
       have hne:b≠b':=fun e=>hc.1 ⟨k,by simp[hk],by rw[h1,e];rfl⟩
       refine⟨fun⟨q,hq,hqb⟩=>hc.1 ⟨q,?_,hqb⟩,hc.2.1,?_⟩
       ·simp only[St.set] at hq
        split at hq
        ·rename_i hqj;have:q=k:=by simpa using hqj
         rw[this];simp[hk]
        ·exact hq
       ·rw[←hc.2.2];exact World.cell?_of_block (by
        have:(ChangeMaps.setBlock w1 b (.mapIter (some r) since (seen++[e.born]).toArray clock)).heap[b']? = w1.heap[b']? :=by simp[ChangeMaps.setBlock,hne]
        rw[this];rcases hw1 with rfl|rfl<;>rfl)
      refine⟨.tuple #[.bool true,me.key,me.val],_,ρ,.inl ?_,hset.putO hd ?_⟩
      ·simp only[execOp,ho']
       rw[ex]
       have e2:seen.toArray.push me.born=(seen++[e.born]).toArray:=by simp[g5]
       rw[e2] at hrun
       simp[hrun]
      ·simp only[relA]
       exact⟨#[.bool true,me.key,me.val],rfl,by simp only[relAs];exact⟨_,_,rfl,by simp[relA,rep],_,_,rfl,by rw[g4];exact Qa7 _,_,_,rfl,Qav hle _ _ hr,rfl⟩⟩
    ·cases hv
     obtain⟨q1,q2,q3⟩:=hp
     have hf:=Qfu (f:=fun n => !seen.contains n) hrel
     rw[q3] at hf
     simp only[relE] at hf
     have hl:(leftOf ents seen.toArray).toList=ents.toList.filter (fun e => !seen.contains e.born):=by simp[leftOf]
     rcases run_next_at (P:=P) w o.type b r since last seen.toArray ents clock h2 hb (hkeep (q1:=q1)) q2 with⟨_,hrun⟩|⟨me,hme,_⟩
     ·refine⟨.tuple #[.bool false],w,ρ,.inl ?_,h.putO hd ?_⟩
      ·simp only[execOp,ho']
       rw[ex]
       simp[hrun]
      ·simp only[relA];exact⟨#[.bool false],rfl,by simp[relAs,relA,rep]⟩
     ·exfalso;rw[hl,hf] at hme;simp at hme
   ·cases hv
  ·cases hv
 ·cases hv
theorem eNextA_sound (h:Rel B s a w ρ){o:Oper}{x:Operand}(ho':o.op = .next x false){k j j' since last clock:Nat}{seen:List Nat}{agg:Bool}{es:List Ent}(hx:ev s x = .at k 0) (hk:s.objs k=some (.iter j since seen last))
  (hm:mapAt s (.ref j)=some (j',agg,clock,es)) (q1:∀x∈es,x.born<since) (q2:since≤last) (q3:∃x∈es,x.born∉seen) (hd:∀d,o.dst=some d→d<B.n):
  ∃e∈es,e.born∉seen∧∀y,toVal agg e.val=some y→EOk P B ((s.set k (.iter j since (seen++[e.born]) clock)).putO o.dst (.tup [.t (boo true),ofVal1 e.key,y])) a w o:=by
 have ex:=h.opd x
 rw[hx] at ex;simp only[relA] at ex
 obtain⟨b0,hb0,ex⟩:=ex
 obtain⟨b,r,h1,h2,h3⟩:=h.heap.obj k _ hk
 have hbb:b=b0:=by rw[h1] at hb0;cases hb0;rfl
 subst hbb
 obtain⟨ho,r',ents,em,hρ,hb,hrel⟩:=Qbg (u:=ρ j) (C:=view B.hid (own ρ s.objs) w) h hm (by simp only[relA])
 rw[h3] at em;cases em
 obtain⟨gl,gr⟩:=Qch.1 hrel
 have hkeep:∀x∈ents.toList,x.born<since:=by
  intro y hy
  obtain⟨i,hi,rfl⟩:=List.mem_iff_getElem.1 hy
  have hi':i<es.length:=by omega
  obtain⟨cs,_,g4,_⟩:=gr i es[i] ents.toList[i] (by simp[hi']) (by simp[hi])
  rw[g4];exact q1 _ (List.getElem_mem hi')
 have hl:(leftOf ents seen.toArray).toList=ents.toList.filter (fun e => !seen.contains e.born):=by simp[leftOf]
 rcases run_next_at (P:=P) w o.type b r since last seen.toArray ents clock h2 hb hkeep q2 with⟨g1,_⟩|⟨me,hme,w1,hw1,hrun⟩
 ·exfalso
  obtain⟨x,hx1,hx2⟩:=q3
  obtain⟨i,hi,rfl⟩:=List.mem_iff_getElem.1 hx1
  have hi':i<ents.toList.length:=by omega
  obtain⟨cs,_,g4,_⟩:=gr i es[i] ents.toList[i] (by simp[hi]) (by simp[hi'])
  have hin:ents.toList[i]∈(leftOf ents seen.toArray).toList:=by
   rw[hl,List.mem_filter]
   refine⟨List.getElem_mem hi',?_⟩
   rw[g4];simpa using hx2
  have:0<(leftOf ents seen.toArray).toList.length:=List.length_pos_of_mem hin
  simp at this;omega
 ·rw[hl,List.mem_filter] at hme
  obtain⟨hme1,hme2⟩:=hme
  obtain⟨i,hi,hie⟩:=List.mem_iff_getElem.1 hme1
  have hi':i<es.length:=by omega
  obtain⟨cs,g5',g6,g7,g8,g9⟩:=gr i es[i] ents.toList[i] (by simp[hi']) (by simp[hi])
  rw[hie] at g5' g6 g7
  refine⟨es[i],List.getElem_mem hi',by rw[←g6];simpa using hme2,fun y hy => ?_⟩
  generalize es[i]=e at g5' g6 g7 g8 g9 hy
  have hrel1:=h.drew' hw1
  have hj1:w1.heap[b]? = some (.mapIter (some r) since seen.toArray last):=by rcases hw1 with rfl|rfl<;>exact h2
  have hlt:b<w1.heap.size:=Qa6 hj1
  have hset:=hrel1.set (w':=ChangeMaps.setBlock w1 b (.mapIter (some r) since (seen++[e.born]).toArray clock)) k _ (.iter j since (seen++[e.born]) clock) hk rfl rfl rfl (by simp[ChangeMaps.setBlock]) (fun b' _ hne=>by
   have:b≠b':=fun e=>hne (by rw[h1,e];rfl)
   simp[ChangeMaps.setBlock,this]) (fun C' hC=>⟨b,r,h1,by simp[ChangeMaps.setBlock,hlt],h3⟩)
  have hr:=Qce (ρ:=ρ) hy g8 g9
  rw[←g7] at hr
  have hle:(view B.hid (own ρ s.objs) w).le (view B.hid (own ρ (s.set k (.iter j since (seen++[e.born]) clock)).objs) (ChangeMaps.setBlock w1 b (.mapIter (some r) since (seen++[e.born]).toArray clock))):=by
   intro b' o' c hc
   rw[Qae] at hc ⊢
   have hne:b≠b':=fun e=>hc.1 ⟨k,by simp[hk],by rw[h1,e];rfl⟩
   refine⟨fun⟨q,hq,hqb⟩=>hc.1 ⟨q,?_,hqb⟩,hc.2.1,?_⟩
   ·simp only[St.set] at hq
    split at hq
    ·rename_i hqj;have:q=k:=by simpa using hqj
     rw[this];simp[hk]
    ·exact hq
   ·rw[←hc.2.2];exact World.cell?_of_block (by
    have:(ChangeMaps.setBlock w1 b (.mapIter (some r) since (seen++[e.born]).toArray clock)).heap[b']? = w1.heap[b']? :=by simp[ChangeMaps.setBlock,hne]
    rw[this];rcases hw1 with rfl|rfl<;>rfl)
  refine⟨.tuple #[.bool true,me.key,me.val],_,ρ,.inl ?_,hset.putO hd ?_⟩
  ·simp only[execOp,ho']
   rw[ex]
   have e2:seen.toArray.push me.born=(seen++[e.born]).toArray:=by simp[g6]
   rw[e2] at hrun
   simp[hrun]
  ·simp only[relA]
   exact⟨#[.bool true,me.key,me.val],rfl,by simp only[relAs];exact⟨_,_,rfl,by simp[relA,rep],_,_,rfl,by rw[g5'];exact Qa7 _,_,_,rfl,Qav hle _ _ hr,rfl⟩⟩
def eEntry (x:Operand)(dst:Option Tmp)(h:Hint)(s:St):Option (List Prop×St):=
 match ev s x,h with
 |.at k 0,.ent e=>match s.objs k with
  |some (.iter j _ seen last)=>match mapAt s (.ref j) with
   |some (_,agg,clock,es)=>(toVal agg e.val).map fun y=>([clock=last∧seen.getLast? = some e.born∧es.find? (fun x=>x.born==e.born)=some e],s.putO dst (.tup [ofVal1 e.key,y]))
   |none=>none
  |_=>none
 |_,_=>none
theorem Qe7 {C:View}{agg:Bool}{b:Nat}:∀{es:List Ent}{l:List MapEntry}{e:Ent},relE C agg es l→es.find? (fun x=>x.born==b)=some e→∃me,l.find? (fun x=>x.born==b)=some me∧relEnt C agg e me
 |[],l,e,_,h=>by simp at h
 |x::es,l,e,hr,h=>by
  simp only[relE] at hr
  obtain⟨me,es',cs,rfl,h2,h3,h4,h5,h6,h7⟩:=hr
  rw[List.find?_cons] at h ⊢
  rw[h3]
  split at h
  ·rename_i hb;cases h;exact⟨me,rfl,cs,h2,h3,h4,h5,h6⟩
  ·exact Qe7 h7 h
theorem eEntry_sound (h:Rel B s a w ρ){o:Oper}{x:Operand}(ho':o.op = .entry x){hh:Hint}{p:List Prop}{s':St}(hv:eEntry x o.dst hh s=some (p,s')) (hp:AllP p) (hd:∀d,o.dst=some d→d<B.n):EOk P B s' a w o:=by
 unfold eEntry at hv
 split at hv
 ·rename_i k e hx
  split at hv
  ·rename_i j since seen last hk
   split at hv
   ·rename_i j' agg clock es hm
    ·simp only[Option.map_eq_some_iff] at hv
     obtain⟨y,hy,hv⟩:=hv
     cases hv
     have ex:=h.opd x
     rw[hx] at ex;simp only[relA] at ex
     obtain⟨b0,hb0,ex⟩:=ex
     obtain⟨b,r,h1,h2,h3⟩:=h.heap.obj k _ hk
     have hbb:b=b0:=by rw[h1] at hb0;cases hb0;rfl
     subst hbb
     obtain⟨ho,r',ents,em,hρ,hb,hrel⟩:=Qbg (u:=ρ j) (C:=view B.hid (own ρ s.objs) w) h hm (by simp only[relA])
     rw[h3] at em;cases em
     obtain⟨hcl,q1,q2⟩:=hp
     obtain⟨me,g1,cs,g2,g3,g4,g5,g6⟩:=Qe7 hrel q2
     have hr:=Qce (ρ:=ρ) hy g5 g6
     rw[←g4] at hr
     have hcl':clock=last:=hcl
     refine⟨.tuple #[me.key,me.val],w,ρ,.inl ?_,h.putO hd ?_⟩
     ·simp only[execOp,ho']
      rw[ex]
      have e1:seen.toArray.back? = some e.born:=by rw[List.back?_toArray];exact q1
      have e2:ents.find? (fun x=>x.born==e.born)=some me:=by rw[←Array.find?_toList];exact g1
      simp only[Instr.entry,getObj,Sem.run_bind,Sem.run,h2,hb,Result.andThen,e1,e2,hcl',bne_self_eq_false,Bool.false_eq_true,if_false]
      rfl
     ·simp only[relA]
      exact⟨#[me.key,me.val],rfl,by simp only[relAs];exact⟨_,_,rfl,by rw[g2];exact Qa7 _,_,_,rfl,hr,rfl⟩⟩
   ·cases hv
  ·cases hv
 ·cases hv
end Go.Ab
