import Derived.Test.YtjlkmdmaimednaaGreatAbH
set_option linter.unusedVariables false
set_option linter.unusedSimpArgs false
namespace Go.Ab
variable {P:Program} {B:Base} {s:St} {a:Act} {w:World} {ρ:Nat→Value}
theorem made_get (z:Array Value) (l m k j:Nat) (hm:z.size=m) (hk:k<l) (hj:j<m):(madeCells z (l*m))[k*m+j]? = z[j]? :=by
 have hlt:k*m+j<l*m:=by have:=mul_row (m:=m) hk (Nat.le_refl _);omega
 have hjz:j<z.size:=by omega
 simp only[madeCells,Array.getElem?_map,Array.getElem?_range,if_pos hlt,Option.map_some]
 have e:(k*m+j)%z.size=j:=by rw[hm,Nat.add_comm,Nat.add_mul_mod_self_right,Nat.mod_eq_of_lt hj]
 rw[e,getElem!_pos z j hjz,Array.getElem?_eq_getElem hjz]
theorem eMake_sound (h:Rel B s a w ρ){o:Oper}{t:TypeId}{ln cp:Operand}(ho:o.op = .makeSlice t ln cp){hh:Hint}{k:Nat}{p:List Prop}{s':St}(hv:eMake P t ln cp o.dst hh k s=some (p,s')) (hp:AllP p) (hd:∀d,o.dst=some d→d<B.n):EOk P B s' a w o:=by
 unfold eMake at hv
 split at hv
 ·rename_i d e kl x kc y l c hdst hu hl hc
  split at hv
  ·rename_i i hi
   split at hv
   ·rename_i z hz
    split at hv
    ·rename_i hcond
     simp only[Bool.and_eq_true,beq_iff_eq,decide_eq_true_eq] at hcond
     obtain⟨⟨⟨hid,hzl⟩,hone⟩,hpos⟩:=hcond
     cases hv
     obtain⟨rfl,rfl,hlc,hby,hmx⟩:=hp
     have el:=Qca h hl
     have ec:=Qca h hc
     have hby':(i.bytes:Int)*(c:Int)≤281474976710656:=by
      have h':((i.bytes*c:Nat):Int)≤281474976710656:=by omega
      rwa [Int.natCast_mul] at h'
     have hrun:=run_make (P:=P) w t e i z hu hi hz kl kc (l:Int) (c:Int) (by omega) (by omega) hby' (by simp only[maxLen] at hmx;omega)
     simp only[Int.toNat_natCast] at hrun
     rw[←el,←ec] at hrun
     have hrep:(List.replicate l (z.cells.toList.map T.v)).length=l:=by simp
     have hzs:z.cells.size=i.size:=by simpa using hzl
     have hrel:=h.alloc_row (hd d hdst) (Qan hid) (.inl rfl) (m:=i.size) (cap:=c) (rows:=List.replicate l (z.cells.toList.map .v)) (cs:=madeCells z.cells (c*i.size)) e (by rw[hrep];exact hlc) hmx (size_madeCells _ _)
      (fun C' hC=>Qbn fun k r hk=>by
       rw[List.getElem?_replicate] at hk
       split at hk
       ·rename_i hkl
        cases hk
        refine⟨by simpa using hzl,Qbd fun j t hj => ?_⟩
        simp only[List.getElem?_map,Option.map_eq_some_iff] at hj
        obtain⟨u,hu',rfl⟩:=hj
        have hjm:j<i.size:=by rw[←hzs];have:=(List.getElem?_eq_some_iff.1 hu').1;simpa using this
        refine⟨u,?_,List.all_eq_true.1 hone u (List.mem_of_getElem? hu'),by simp[rep]⟩
        rw[Nat.zero_add,made_get z.cells c i.size k j hzs (by omega) hjm]
        simpa using hu'
       ·cases hk) none
     rw[←hdst] at hrel
     refine⟨_,_,_,.inl ?_,hrel⟩
     simp only[execOp,ho,Sem.run_bind,hrun,Result.andThen_ok,Sem.run_pure,hrep]
    ·cases hv
   ·cases hv
  ·cases hv
 ·cases hv
def ofO (os:List (Nat×O))(i:Nat):Option O:=os.lookup i
def loose (i:Nat):Bool:=Nat.ble 1000 i
def newIds (ids:List Nat)(os':List (Nat×O)):List Nat:=(os'.map (·.1)).filter fun i => !ids.contains i||loose i
def keptIds (ids:List Nat):List Nat:=ids.filter fun i => !loose i
def pickOs (f:Nat→Option O):List Nat→List (Nat×O)
 |[]=>[]
 |i::l=>match f i with|some o=>(i,o)::pickOs f l|none=>pickOs f l
theorem Qar (f:Nat→Option O):∀(ids:List Nat)(i:Nat),(pickOs f ids).lookup i=if i∈ids then f i else none
 |[],i=>by simp[pickOs]
 |k::ids,i=>by
  simp only[pickOs]
  by_cases h:i=k
  ·subst h
   cases hf:f i with
   |some o=>simp
   |none=>
    simp only[]
    rw[Qar f ids i,hf];simp
  ·have hb:(i==k)=false:=by simpa using h
   cases hf:f k with
   |some o=>simp only[List.lookup_cons,hb];rw[Qar f ids i];simp[h]
   |none=>simp only[];rw[Qar f ids i];simp[h]
def callInfo:Hint→Option (List (List Nat×Nat)×List Nat×List Nat×A×List (Nat×O))
 |.call ids r os=>some ([],ids,[],r,os)
 |.callN nl ids r os=>some (nl,ids,[],r,os)
 |.callR nl ids ro r os=>some (nl,ids,ro,r,os)
 |_=>none
def roInfo:Hint→Option (List (List Nat×Nat)×A)
 |.ro r=>some ([],r)
 |.roN nl r=>some (nl,r)
 |_=>none
def Enter (P:Program)(f:FuncId):Prop:=∀args w,(callFunc f args).run P w = .ok (.enter f args) w
structure Con (P:Program) (f:FuncId) (xs:List A) (os:List (Nat×O)) (R:A→List (Nat×O)→Prop):Prop where
 enter:Enter P f
 out:∀hid ρ w us,Heap hid ρ (ofO os) w→relAs ρ (view hid (own ρ (ofO os)) w) xs us→
  Calls P f us.toArray w (fun e w'=>∃r os' σ u,R r os'∧e = .returned u∧Heap hid σ (ofO os') w'∧relA σ (view hid (own σ (ofO os')) w') r u∧
   Frm w (own ρ (ofO os)) (own σ (ofO os')) w'∧∀i,(ofO os i).isSome=true→loose i=false→σ i=ρ i)
theorem Con.mono {f:FuncId}{xs:List A}{os:List (Nat×O)}{R R':A→List (Nat×O)→Prop}(h:Con P f xs os R) (hR:∀r os',R r os'→R' r os'):Con P f xs os R':=
 ⟨h.enter,fun hid ρ w us hh hr=>(h.out hid ρ w us hh hr).mono fun _ _ ⟨r,os',σ,u,h1,h2⟩=>⟨r,os',σ,u,hR _ _ h1,h2⟩⟩
def pickO (s:St):List Nat→Option (List (Nat×O))
 |[]=>some []
 |i::l=>match s.objs i,pickO s l with|some o,some r=>some ((i,o)::r)|_,_=>none
def St.after (s:St)(ids new:List Nat)(os':List (Nat×O)):St:=
 { s with slots:=fun i=>(s.slots i).kill new,objs:=fun i=>match ofO os' i with|some o=>some o|none=>if ids.contains i then none else(s.objs i).map (O.kill new) }
def calleeOf (s:St)(f:Operand):Option (FuncId×List A):=match ev s f with | .fn g cap=>some (g,cap)|_=>none
def eCall (P:Program)(f:Operand)(args:List Operand)(dst:Option Tmp)(h:Hint)(s:St):Option (List Prop×St):=
 match calleeOf s f,callInfo h with
 |some (g,cap),some (nl,ids,ro,r,os0)=>match pickO s ids with
  |some os=>
   let os':=os0++pickOs s.objs ro
   let new:=newIds ids os'
   if new.all (idOk s)&&r.only (keptIds ids++new)&&os'.all (fun p=>p.2.only (keptIds ids++new)) then
    some ([Con P g (nilArgs nl (args.map (ev s)++cap)) os (fun r' o'=>r'=r∧o'=os')],(s.after ids new os').putO dst r)
   else none
  |none=>none
 |_,_=>none
theorem Qdu:∀{ids:List Nat}{os:List (Nat×O)},pickO s ids=some os→∀i,(i∈ids→ofO os i=s.objs i∧(s.objs i).isSome=true)∧(i∉ids→ofO os i=none)
 |[],os,h,i=>by simp[pickO] at h;subst h;simp[ofO]
 |k::l,os,h,i=>by
  simp only[pickO] at h
  split at h
  ·rename_i o r ho hr
   cases h
   have ih:=Qdu hr i
   constructor
   ·intro hi
    by_cases hik:i=k
    ·subst hik;simp[ofO,ho]
    ·have:(i==k)=false:=by simpa using hik
     have h1:=ih.1 (by simpa[hik] using hi)
     simp only[ofO,List.lookup_cons,this];exact h1
   ·intro hi
    simp only[List.mem_cons,not_or] at hi
    have:(i==k)=false:=by simpa using hi.1
    simp only[ofO,List.lookup_cons,this];exact ih.2 hi.2
  ·cases h
theorem Qcw {os:List (Nat×O)}{i:Nat}{o:O}(h:os.lookup i=some o):(i,o)∈os:=by
 induction os with
 |nil=>simp at h
 |cons p os ih=>
  rw[List.lookup_cons] at h
  split at h
  ·rename_i he
   cases h
   have:i=p.1:=by simpa using he
   subst this;simp
  ·exact List.mem_cons_of_mem _ (ih h)
theorem Rel.call (h:Rel B s a w ρ){ids new:List Nat}{os os':List (Nat×O)}{w':World}{σ:Nat→Value}
  (hpick:∀i,(i∈ids→ofO os i=s.objs i∧(s.objs i).isSome=true)∧(i∉ids→ofO os i=none))
  (hnew:∀i,(ofO os' i).isSome=true→i∈keptIds ids∨i∈new) (hni:∀i,i∈new→(ofO os' i).isSome=true) (hnb:∀i,i∈new→i∉s.base)
  (honly:∀i o,ofO os' i=some o→o.only (keptIds ids++new)=true)
  (hH:Heap (fun b=>B.hid b∨(own ρ s.objs b∧¬ own ρ (ofO os) b)) σ (ofO os') w') (hF:Frm w (own ρ (ofO os)) (own σ (ofO os')) w') (hkeep:∀i,(ofO os i).isSome=true→loose i=false→σ i=ρ i):
  Rel B (s.after ids new os') a w' (fun i=>if i∈new then σ i else ρ i)∧
  (∀r u,r.only (keptIds ids++new)=true→relA σ (view (fun b=>B.hid b∨(own ρ s.objs b∧¬ own ρ (ofO os) b)) (own σ (ofO os')) w') r u→
   relA (fun i=>if i∈new then σ i else ρ i) (view B.hid (own (fun i=>if i∈new then σ i else ρ i) (s.after ids new os').objs) w') r u):=by
 have hρ':∀i,i∈keptIds ids++new→(if i∈new then σ i else ρ i)=σ i:=fun i hi=>by
  by_cases hin:i∈new
  ·simp[hin]
  ·have hid:i∈ids∧loose i=false:=by simpa[hin,keptIds] using hi
   obtain⟨h1,h2⟩:=(hpick i).1 hid.1
   simp only[hin,if_false]
   rw[hkeep i (by rw[h1];exact h2) hid.2]
 have hoff:∀i,i∉new→(if i∈new then σ i else ρ i)=ρ i:=fun i hi=>by simp[hi]
 have hother:∀i o,(s.after ids new os').objs i=some o→(ofO os' i=some o∧(i∈keptIds ids∨i∈new))∨(i∉ids∧i∉new∧∃o0,s.objs i=some o0∧o=o0.kill new):=by
  intro i o hi
  simp only[St.after] at hi
  split at hi
  ·rename_i o1 h1
   cases hi
   exact .inl ⟨h1,hnew i (by simp[h1])⟩
  ·rename_i h1
   split at hi
   ·cases hi
   ·rename_i h2
    simp only[Option.map_eq_some_iff] at hi
    obtain⟨o0,h3,rfl⟩:=hi
    have h2:i∉ids:=by simpa using h2
    refine .inr ⟨h2,fun h4 => ?_,o0,h3,rfl⟩
    have:=hni i h4
    rw[h1] at this;cases this
 have hownP:∀b,own ρ (ofO os) b→own ρ s.objs b:=by
  rintro b ⟨i,hi,hb⟩
  by_cases hid:i∈ids
  ·exact⟨i,((hpick i).1 hid).2,hb⟩
  ·rw[(hpick i).2 hid] at hi;cases hi
 have hown':∀b,own (fun i=>if i∈new then σ i else ρ i) (s.after ids new os').objs b→own σ (ofO os') b∨(own ρ s.objs b∧¬ own ρ (ofO os) b):=by
  rintro b ⟨i,hi,hb⟩
  obtain⟨o,ho⟩:=Option.isSome_iff_exists.1 hi
  rcases hother i o ho with⟨h1,h2⟩|⟨h1,h2,o0,h3,_⟩
  ·left
   refine⟨i,by simp[h1],?_⟩
   rw[←hρ' i (by simpa using h2)];exact hb
  ·right
   simp only[hoff i h2] at hb
   refine⟨⟨i,by simp[h3],hb⟩,?_⟩
   rintro ⟨k,hk,hbk⟩
   have hkid:k∈ids:=by
    by_cases hkid:k∈ids
    ·exact hkid
    ·rw[(hpick k).2 hkid] at hk;cases hk
   have:=h.heap.dis i k b (by simp[h3]) ((hpick k).1 hkid).2 hb hbk
   subst this;exact h1 hkid
 have hsame:∀b,b<w.heap.size→¬ own ρ (ofO os) b→w'.heap[b]? = w.heap[b]? :=hF.block
 have hle1:(view (fun b=>B.hid b∨(own ρ s.objs b∧¬ own ρ (ofO os) b)) (own σ (ofO os')) w').le (view B.hid (own (fun i=>if i∈new then σ i else ρ i) (s.after ids new os').objs) w'):=by
  intro b o c hc
  rw[Qae] at hc ⊢
  simp only[not_or] at hc
  refine⟨fun h1 => ?_,hc.2.1.1,hc.2.2⟩
  rcases hown' b h1 with h2|h2
  ·exact hc.1 h2
  ·exact hc.2.1.2 h2
 have hle2:(view B.hid (own ρ s.objs) w).le (view B.hid (own (fun i=>if i∈new then σ i else ρ i) (s.after ids new os').objs) w'):=by
  intro b o c hc
  rw[Qae] at hc ⊢
  have hlt:b<w.heap.size:=World.block_lt_of_cell? w _ hc.2.2
  refine⟨fun h1 => ?_,hc.2.1,?_⟩
  ·rcases hown' b h1 with h2|h2
   ·rcases hF.new b h2 with h3|h3
    ·exact hc.1 (hownP b h3)
    ·omega
   ·exact hc.1 h2.1
  ·rw[World.cell?_of_block (w:=w) (hsame b hlt fun h1=>hc.1 (hownP b h1))];exact hc.2.2
 refine⟨⟨⟨fun i o hi => ?_,fun i k b hi hk hbi hbk => ?_,fun b hb => ?_,fun b hb=>Nat.lt_of_lt_of_le (h.heap.hlt b hb) hF.size⟩,
  ⟨hF.os.trans h.frm.os,hF.tape.trans h.frm.tape,hF.output.trans h.frm.output,Nat.le_trans h.frm.size hF.size,fun b hlt hno => ?_,fun b hb => ?_⟩,fun i => ?_,fun i hi => ?_,h.n,h.defers,h.base⟩,fun r u hr hrel => ?_⟩
 ·rcases hother i o hi with⟨h1,h2⟩|⟨h1,h2,o0,h3,rfl⟩
  ·have h4:=hH.obj i o h1
   have e:=hρ' i (by simpa using h2)
   rw[e]
   exact relO_only (fun k hk=>hρ' k hk) o (honly i o h1) (Qbe (w:=w') hle1 (fun _ _=>rfl) o h4)
  ·have h4:=h.heap.obj i o0 h3
   simp only[hoff i h2]
   refine relO_kill (fun k hk=>hoff k hk) o0 (Qbe (w:=w) hle2 (fun b hb=>hsame b (Qcj h4 hb) ?_) o0 h4)
   rintro ⟨k,hk,hbk⟩
   have hkid:k∈ids:=by
    by_cases hkid:k∈ids
    ·exact hkid
    ·rw[(hpick k).2 hkid] at hk;cases hk
   have:=h.heap.dis i k b (by simp[h3]) ((hpick k).1 hkid).2 hb hbk
   subst this;exact h1 hkid
 ·obtain⟨o1,h1⟩:=Option.isSome_iff_exists.1 hi
  obtain⟨o2,h2⟩:=Option.isSome_iff_exists.1 hk
  have mixed:∀i k o1 o2,ofO os' i=some o1→(i∈keptIds ids∨i∈new)→k∉ids→k∉new→s.objs k=some o2→blockOf (if i∈new then σ i else ρ i)=some b→blockOf (if k∈new then σ k else ρ k)=some b→False:=by
   intro i k o1 o2 h3 h4 h5 h6 h7 h8 h9
   rw[hρ' i (by simpa using h4)] at h8
   rw[hoff k h6] at h9
   have hkl:=Qcj (h.heap.obj k o2 h7) h9
   rcases hF.new b ⟨i,by simp[h3],h8⟩ with⟨j,hj,hbj⟩|h10
   ·have hjid:j∈ids:=by
     by_cases hjid:j∈ids
     ·exact hjid
     ·rw[(hpick j).2 hjid] at hj;cases hj
    have:=h.heap.dis k j b (by simp[h7]) ((hpick j).1 hjid).2 h9 hbj
    subst this;exact h5 hjid
   ·omega
  rcases hother i o1 h1 with⟨h3,h4⟩|⟨h3,h4,o0,h5,_⟩<;>rcases hother k o2 h2 with⟨h6,h7⟩|⟨h6,h7,o0',h8,_⟩
  ·have e1:=hρ' i (by simpa using h4)
   have e2:=hρ' k (by simpa using h7)
   rw[e1] at hbi;rw[e2] at hbk
   exact hH.dis i k b (by simp[h3]) (by simp[h6]) hbi hbk
  ·exact(mixed i k o1 o0' h3 h4 h6 h7 h8 hbi hbk).elim
  ·exact(mixed k i o2 o0 h6 h7 h3 h4 h5 hbk hbi).elim
  ·simp only[hoff i h4] at hbi
   simp only[hoff k h7] at hbk
   exact h.heap.dis i k b (by simp[h5]) (by simp[h8]) hbi hbk
 ·rcases hown' b hb with h1|h1
  ·exact fun h2=>hH.nhid b h1 (.inl h2)
  ·exact h.heap.nhid b h1.1
 ·have hns:¬ own ρ s.objs b:=fun h1=>by
   rcases h.frm.new b h1 with h2|h2
   ·exact hno h2
   ·omega
  rw[hsame b (Nat.lt_of_lt_of_le hlt h.frm.size) fun h1=>hns (hownP b h1)]
  exact h.frm.block b hlt hno
 ·rcases hown' b hb with h1|h1
  ·rcases hF.new b h1 with h2|h2
   ·exact h.frm.new b (hownP b h2)
   ·exact .inr (Nat.le_trans h.frm.size h2)
  ·exact h.frm.new b h1.1
 ·exact Qav hle2 _ _ (Qen (fun k hk=>hoff k hk) _ _ (h.slots i))
 ·have:i∉new:=fun h1=>hnb i h1 hi
  simp only[this,if_false];exact h.keep i hi
 ·exact Qav hle1 _ _ (Qeo (fun k hk=>hρ' k hk) r u hr hrel)
theorem eCall_sound (h:Rel B s a w ρ){o:Oper}{f:Operand}{args:Array Operand}{tys:Array TypeId}(ho:o.op = .call { callee := .value f,args:=args,argTypes:=tys }){hh:Hint}{p:List Prop}{s':St}
  (hv:eCall P f args.toList o.dst hh s=some (p,s')) (hp:AllP p) (hd:∀d,o.dst=some d→d<B.n):
  ∃g us,(execOp a.eval o).run P w = .ok (.enter g us) w∧Calls P g us w (fun e w'=>∃u ρ',e = .returned u∧Rel B s' (a.put o.dst u) w' ρ'):=by
 unfold eCall at hv
 split at hv
 ·rename_i g cap nl ids ro r os0 hcal _
  split at hv
  ·rename_i os hpk
   simp only at hv
   split at hv
   ·rename_i hc
    cases hv
    simp only[Bool.and_eq_true] at hc
    obtain⟨⟨h1,h2⟩,h3⟩:=hc
    generalize os0++pickOs s.objs ro=os' at*
    obtain⟨hent,hcon⟩:=hp
    unfold calleeOf at hcal
    split at hcal
    ·rename_i g' cap' hef
     cases hcal
     have hf:=h.opd f
     rw[hef] at hf;simp only[relA] at hf
     obtain⟨cs,hf1,hf2⟩:=hf
     refine⟨g,(args.toList.map a.eval++cs.toList).toArray,?_,?_⟩
     ·have e:(args.toList.map a.eval++cs.toList).toArray=args.map a.eval++cs:=by rw[←Array.toList_inj];simp
      rw[e,←hent]
      simp[execOp,ho,resolve,hf1,Deferred.ofValue,invoke]
     ·have hpick:=Qdu hpk
      have hview:view (fun b=>B.hid b∨(own ρ s.objs b∧¬ own ρ (ofO os) b)) (own ρ (ofO os)) w=view B.hid (own ρ s.objs) w:=by
       funext b off
       have hiff:(own ρ (ofO os) b∨(B.hid b∨(own ρ s.objs b∧¬ own ρ (ofO os) b)))↔(own ρ s.objs b∨B.hid b):=by
        constructor
        ·rintro (h4|h4|h4)
         ·obtain⟨i,hi,hb⟩:=h4
          by_cases hid:i∈ids
          ·exact .inl ⟨i,((hpick i).1 hid).2,hb⟩
          ·rw[(hpick i).2 hid] at hi;cases hi
         ·exact .inr h4
         ·exact .inl h4.1
        ·rintro (h4|h4)
         ·by_cases h5:own ρ (ofO os) b
          ·exact .inl h5
          ·exact .inr (.inr ⟨h4,h5⟩)
         ·exact .inr (.inl h4)
       unfold view
       by_cases hq:own ρ s.objs b∨B.hid b
       ·rw[if_pos (hiff.2 hq),if_pos hq]
       ·rw[if_neg (fun hq'=>hq (hiff.1 hq')),if_neg hq]
      have hownP:∀b,own ρ (ofO os) b→own ρ s.objs b:=by
       rintro b ⟨i,hi,hb⟩
       by_cases hid:i∈ids
       ·exact⟨i,((hpick i).1 hid).2,hb⟩
       ·rw[(hpick i).2 hid] at hi;cases hi
      have hobj:∀i o,ofO os i=some o→s.objs i=some o:=fun i o hi=>by
       by_cases hid:i∈ids
       ·rw[← ((hpick i).1 hid).1];exact hi
       ·rw[(hpick i).2 hid] at hi;cases hi
      have hheap:Heap (fun b=>B.hid b∨(own ρ s.objs b∧¬ own ρ (ofO os) b)) ρ (ofO os) w:=by
       refine⟨fun i o hi => ?_,fun i j b hi hj => ?_,fun b hb => ?_,fun b hb => ?_⟩
       ·rw[hview];exact h.heap.obj i o (hobj i o hi)
       ·obtain⟨o1,e1⟩:=Option.isSome_iff_exists.1 hi
        obtain⟨o2,e2⟩:=Option.isSome_iff_exists.1 hj
        exact h.heap.dis i j b (by simp[hobj i o1 e1]) (by simp[hobj j o2 e2])
       ·rintro (h4|h4)
        ·exact h.heap.nhid b (hownP b hb) h4
        ·exact h4.2 hb
       ·rcases hb with h4|h4
        ·exact h.heap.hlt b h4
        ·exact h.own_lt h4.1
      have hargs:relAs ρ (view (fun b=>B.hid b∨(own ρ s.objs b∧¬ own ρ (ofO os) b)) (own ρ (ofO os)) w) (nilArgs nl (args.toList.map (ev s)++cap)) (args.toList.map a.eval++cs.toList):=by
       rw[hview];exact Qeh nl (Qbv (Qev h _) hf2)
      refine(hcon _ ρ w _ hheap hargs).mono ?_
      rintro e w' ⟨r',os1,σ,u,⟨rfl,rfl⟩,rfl,hH,hrr,hF,hkp⟩
      have hmem:∀i,(ofO os1 i).isSome=true↔i∈os1.map (·.1):=by
       intro i
       constructor
       ·intro hi
        obtain⟨o1,e1⟩:=Option.isSome_iff_exists.1 hi
        exact List.mem_map.2 ⟨(i,o1),Qcw e1,rfl⟩
       ·intro h4
        obtain⟨q,hq,rfl⟩:=List.mem_map.1 h4
        have:os1.lookup q.1≠none:=by
         intro hn
         rw[List.lookup_eq_none_iff] at hn
         have:=hn q hq
         simp at this
        exact Option.isSome_iff_ne_none.2 this
      have hnewmem:∀i,i∈newIds ids os1↔i∈os1.map (·.1)∧(i∉ids∨loose i=true):=by
       intro i;simp[newIds,List.mem_filter]
      obtain⟨hrel,hres⟩:=h.call (new:=newIds ids os1) hpick
       (fun i hi=>by
        by_cases hid:i∈ids∧loose i=false
        ·left;simpa[keptIds] using hid
        ·right
         refine(hnewmem i).2 ⟨(hmem i).1 hi,?_⟩
         by_cases h5:i∈ids
         ·right
          cases h6:loose i with
          |true=>rfl
          |false=>exact absurd ⟨h5,h6⟩ hid
         ·exact .inl h5)
       (fun i hi=>(hmem i).2 ((hnewmem i).1 hi).1)
       (fun i hi=>Qan (List.all_eq_true.1 h1 i hi))
       (fun i o1 hi=>by
        have:=List.all_eq_true.1 h3 (i,o1) (Qcw hi)
        exact this)
       hH hF hkp
      exact⟨u,_,rfl,hrel.putO hd (hres _ u h2 hrr)⟩
    ·cases hcal
   ·cases hv
  ·cases hv
 ·cases hv
mutual
def roA (g:Nat→Option O):A→A
 |.ref j=>match g j with|some (.row m rows) => .t (.sl m rows)|_ => .ref j
 |.agg xs => .agg (roL g xs)
 |.tup xs => .tup (roL g xs)
 |.fn f xs => .fn f (roL g xs)
 |x=>x
def roL (g:Nat→Option O):List A→List A
 |[]=>[]
 |x::xs=>roA g x::roL g xs
end
mutual
theorem relA_ro {g:Nat→Option O}{C:View}(h:∀j m rows,g j=some (.row m rows)→rep C (.sl m rows) (ρ j)):∀(x:A)(u:Value),relA ρ C x u→relA ρ C (roA g x) u
 |.dead,_,_=>by simp only[roA,relA]
 |.t x,u,hr=>by simpa only[roA] using hr
 |.agg xs,u,hr=>by simp only[roA,relA] at hr ⊢;obtain⟨cs,h1,h2⟩:=hr;exact⟨cs,h1,Qer h xs _ h2⟩
 |.ref j,u,hr=>by
  simp only[roA]
  split
  ·rename_i m rows hj;simp only[relA] at hr ⊢;rw[hr];exact h j m rows hj
  ·exact hr
 |.at i off,u,hr=>by simpa only[roA] using hr
 |.elt i k m off,u,hr=>by simpa only[roA] using hr
 |.tup xs,u,hr=>by simp only[roA,relA] at hr ⊢;obtain⟨cs,h1,h2⟩:=hr;exact⟨cs,h1,Qer h xs _ h2⟩
 |.fn f xs,u,hr=>by simp only[roA,relA] at hr ⊢;obtain⟨cs,h1,h2⟩:=hr;exact⟨cs,h1,Qer h xs _ h2⟩
theorem Qer {g:Nat→Option O}{C:View}(h:∀j m rows,g j=some (.row m rows)→rep C (.sl m rows) (ρ j)):∀(xs:List A)(us:List Value),relAs ρ C xs us→relAs ρ C (roL g xs) us
 |[],us,hr=>by simpa only[roL] using hr
 |x::xs,us,hr=>by
  simp only[roL,relAs] at hr ⊢
  obtain⟨u,us',h1,h2,h3⟩:=hr
  exact⟨u,us',h1,relA_ro h x u h2,Qer h xs us' h3⟩
end
mutual
theorem val_any {σ:Nat→Value}{C D:View}:∀(x:A)(u v:Value),x.val? = some v→relA ρ C x u→relA σ D x u
 |.dead,_,_,h,_=>by simp[A.val?] at h
 |.t (.v y),u,v,h,hr=>by simpa only[relA,rep] using hr
 |.t (.sl _ _),_,_,h,_=>by simp[A.val?] at h
 |.t (.sn _ _),_,_,h,_=>by simp[A.val?] at h
 |.t (.pt _),_,_,h,_=>by simp[A.val?] at h
 |.agg xs,u,v,h,hr=>by
  simp only[A.val?,Option.map_eq_some_iff] at h
  obtain⟨l,h1,_⟩:=h
  simp only[relA] at hr ⊢
  obtain⟨cs,h2,h3⟩:=hr
  exact⟨cs,h2,valL_any xs _ l h1 h3⟩
 |.tup xs,u,v,h,hr=>by
  simp only[A.val?,Option.map_eq_some_iff] at h
  obtain⟨l,h1,_⟩:=h
  simp only[relA] at hr ⊢
  obtain⟨cs,h2,h3⟩:=hr
  exact⟨cs,h2,valL_any xs _ l h1 h3⟩
 |.ref _,_,_,h,_=>by simp[A.val?] at h
 |.at _ _,_,_,h,_=>by simp[A.val?] at h
 |.elt _ _ _ _,_,_,h,_=>by simp[A.val?] at h
 |.fn _ _,_,_,h,_=>by simp[A.val?] at h
theorem valL_any {σ:Nat→Value}{C D:View}:∀(xs:List A)(us l:List Value),A.valL xs=some l→relAs ρ C xs us→relAs σ D xs us
 |[],us,l,h,hr=>by simpa only[relAs] using hr
 |x::xs,us,l,h,hr=>by
  simp only[A.valL] at h
  split at h
  ·rename_i v l' hv hl
   simp only[relAs] at hr ⊢
   obtain⟨u,us',h1,h2,h3⟩:=hr
   exact⟨u,us',h1,val_any x u v hv h2,valL_any xs us' l' hl h3⟩
  ·cases h
end
theorem Rel.ext (h:Rel B s a w ρ){w':World}(hos:w'.os=w.os) (htape:w'.tape=w.tape) (hout:w'.output=w.output) (hsize:w.heap.size≤w'.heap.size) (hblock:∀b,b<w.heap.size→w'.heap[b]? = w.heap[b]?):Rel B s a w' ρ:=by
 have hle:(view B.hid (own ρ s.objs) w).le (view B.hid (own ρ s.objs) w'):=by
  intro b o c hc
  rw[Qae] at hc ⊢
  have hlt:b<w.heap.size:=World.block_lt_of_cell? w _ hc.2.2
  exact⟨hc.1,hc.2.1,by rw[World.cell?_of_block (w:=w) (hblock b hlt)];exact hc.2.2⟩
 refine⟨⟨fun i o hi => ?_,h.heap.dis,h.heap.nhid,fun b hb=>Nat.lt_of_lt_of_le (h.heap.hlt b hb) hsize⟩,
  ⟨hos.trans h.frm.os,htape.trans h.frm.tape,hout.trans h.frm.output,Nat.le_trans h.frm.size hsize,fun b hlt hno => ?_,h.frm.new⟩,fun i=>Qav hle _ _ (h.slots i),h.keep,h.n,h.defers,h.base⟩
 ·have h1:=h.heap.obj i o hi
  exact Qbe (w:=w) hle (fun b hb=>hblock b (Qcj h1 hb)) o h1
 ·rw[hblock b (Nat.lt_of_lt_of_le hlt h.frm.size)];exact h.frm.block b hlt hno
def eRO (P:Program)(f:Operand)(args:List Operand)(dst:Option Tmp)(nl:List (List Nat×Nat))(r:A)(s:St):Option (List Prop×St):=
 match calleeOf s f with
 |some (g,cap)=>if r.val?.isSome then some ([Con P g (nilArgs nl (roL s.objs (args.map (ev s)++cap))) [] (fun r' o'=>r'=r∧o'=[])],s.putO dst r) else none
 |none=>none
theorem eRO_sound (h:Rel B s a w ρ){o:Oper}{f:Operand}{args:Array Operand}{tys:Array TypeId}(ho:o.op = .call { callee := .value f,args:=args,argTypes:=tys }){nl:List (List Nat×Nat)}{r:A}{p:List Prop}{s':St}
  (hv:eRO P f args.toList o.dst nl r s=some (p,s')) (hp:AllP p) (hd:∀d,o.dst=some d→d<B.n):
  ∃g us,(execOp a.eval o).run P w = .ok (.enter g us) w∧Calls P g us w (fun e w'=>∃u ρ',e = .returned u∧Rel B s' (a.put o.dst u) w' ρ'):=by
 unfold eRO at hv
 split at hv
 ·rename_i g cap hcal
  split at hv
  ·rename_i hval
   cases hv
   obtain⟨v,hval⟩:=Option.isSome_iff_exists.1 hval
   have hcon:Con P g (nilArgs nl (roL s.objs (args.toList.map (ev s)++cap))) [] (fun r' o'=>r'=r∧o'=[]):=hp
   unfold calleeOf at hcal
   split at hcal
   ·rename_i g' cap' hef
    cases hcal
    have hf:=h.opd f
    rw[hef] at hf;simp only[relA] at hf
    obtain⟨cs,hf1,hf2⟩:=hf
    refine⟨g,(args.toList.map a.eval++cs.toList).toArray,?_,?_⟩
    ·have e:(args.toList.map a.eval++cs.toList).toArray=args.map a.eval++cs:=by rw[←Array.toList_inj];simp
     rw[e,←hcon.enter]
     simp[execOp,ho,resolve,hf1,Deferred.ofValue,invoke]
    ·
     let isRow:Nat→Prop:=fun b=>∃i m rows,s.objs i=some (.row m rows)∧blockOf (ρ i)=some b
     let hid':Nat→Prop:=fun b=>B.hid b∨(own ρ s.objs b∧¬ isRow b)
     have hnone:∀b,¬ own ρ (ofO []) b:=by rintro b ⟨i,hi,_⟩;simp[ofO] at hi
     have hle:(view B.hid (own ρ s.objs) w).le (view hid' (own ρ (ofO [])) w):=by
      intro b off c hc
      rw[Qae] at hc ⊢
      refine⟨hnone b,?_,hc.2.2⟩
      rintro (h1|h1)
      ·exact hc.2.1 h1
      ·exact hc.1 h1.1
     have hrows:∀j m rows,s.objs j=some (.row m rows)→rep (view hid' (own ρ (ofO [])) w) (.sl m rows) (ρ j):=by
      intro j m rows hj
      rcases h.heap.obj j _ hj with⟨h1,h2⟩|⟨b,cap,cur,e,h1,h2,h3,h4,h5,h6,h6c⟩
      ·simp only[rep];exact .inl ⟨h1,Qfj h2⟩
      ·simp only[rep]
       refine .inr ⟨b,0,cap,h1,h3,h4,Qad hle m rows _ _ 0 (fun off c hc => ?_) h6⟩
       rw[Qae]
       refine⟨hnone b,?_,by rw[cell_of_row w b off cur e (0,0) h2];exact hc⟩
       rintro (h7|h7)
       ·exact h.heap.nhid b ⟨j,by simp[hj],by rw[h1];exact Qah h6c⟩ h7
       ·exact h7.2 ⟨j,m,rows,hj,by rw[h1];exact Qah h6c⟩
     have hheap:Heap hid' ρ (ofO []) w:=by
      refine⟨fun i o hi=>by simp[ofO] at hi,fun i j b hi=>by simp[ofO] at hi,fun b hb=>absurd hb (hnone b),fun b hb => ?_⟩
      rcases hb with h1|h1
      ·exact h.heap.hlt b h1
      ·exact h.own_lt h1.1
     have hargs:=Qeh nl (Qer (g:=s.objs) hrows _ _ (Qas hle _ _ (Qbv (Qev h args.toList) hf2)))
     refine(hcon.out _ ρ w _ hheap hargs).mono ?_
     rintro e w' ⟨r',os1,σ,u,⟨rfl,rfl⟩,rfl,hH,hrr,hF,hkp⟩
     have hrel:=h.ext hF.os hF.tape hF.output hF.size fun b hb=>hF.block b hb (hnone b)
     exact⟨u,ρ,rfl,hrel.putO hd (val_any _ u v hval hrr)⟩
   ·cases hcal
  ·cases hv
 ·cases hv
end Go.Ab
