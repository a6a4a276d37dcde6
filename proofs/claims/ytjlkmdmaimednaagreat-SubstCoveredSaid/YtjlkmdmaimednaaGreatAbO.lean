import Derived.Test.YtjlkmdmaimednaaGreatAbN
set_option linter.unusedVariables false
set_option linter.unusedSimpArgs false
namespace Go.Ab
variable {P:Program} {n:Nat} {B:Base}
structure Rec where
 i:Nat
 p:List Prop
 g:G
 dst:Option Nat
 rd:List Nat
def blind:Op→Bool
 |.move _ | .assign _=>true
 |_=>false
theorem stepG_blind {o:Oper}{h:Hint}{s s':St}(hb:blind o.op=true) (he:∀x∈o.op.operands,ev s' x=ev s x):stepG P n o h s'=stepG P n o h s:=by
 obtain⟨dst,op,ty,pos,aft,gd⟩:=o
 cases op<;>simp only[blind,Bool.false_eq_true] at hb
 case move x=>have:=he x (by simp[Op.operands]);unfold stepG stepG0 valueOp vOp;simp only[this]
 case assign x=>have:=he x (by simp[Op.operands]);unfold stepG stepG0 valueOp vOp;simp only[this]
def rdOf (s:St)(o:Op):List Nat:=if blind o then [] else opRefs s o.operands.toList
def actAt (P:Program)(n:Nat)(ops:List Oper)(hs:List (Nat×Hint))(i:Nat)(s:St):Option Rec:=
 match ops[i]? with
 |none=>none
 |some o=>match guardA s ops o with
  |some true=>match stepG P n o (hintOf hs i) s with
   |some (p,g)=>some ⟨i,p,g,o.dst,rdOf s o.op++hintIds (hintOf hs i)⟩
   |none=>none
  |some false=>if dstOk n o.dst then some ⟨i,[],⟨some (.tup []),[],[]⟩,o.dst,[]⟩ else none
  |none=>none
def runR (P:Program)(n:Nat)(ops:List Oper)(hs:List (Nat×Hint)):List Nat→St→Option (List Rec×St)
 |[],s=>some ([],s)
 |i::l,s=>match actAt P n ops hs i s with
  |some r=>match runR P n ops hs l (r.g.apply r.dst s) with
   |some (rs,s')=>some (r::rs,s')
   |none=>none
  |none=>none
def waitsN (ops:List Oper):Nat→Nat→Nat→Bool
 |0,_,_=>false
 |n+1,i,j=>match ops[i]? with
  |some o=>(o.after.toList.any fun e=>Region.binds .any e&&e.on==j)||(o.after.toList.any fun e=>Region.binds .any e&&waitsN ops n e.on j)
  |none=>false
def waits (ops:List Oper)(i j:Nat):Bool:=waitsN ops 3 i j
def DepsDone (ops:Array Oper)(listed:Array Bool)(i:Nat):Prop:=∀o,ops[i]? = some o→∀e∈o.after.toList,Region.binds .any e=true→listed.getD e.on false=true
theorem waitsN_done {ops:Array Oper}{listed:Array Bool}(hD:∀i,listed.getD i false=true→DepsDone ops listed i){k:Nat}(hk:listed.getD k false=false):∀(n i:Nat),DepsDone ops listed i→waitsN ops.toList n i k=false
 |0,_,_=>rfl
 |n+1,i,hi=>by
  unfold waitsN
  split
  ·rename_i o ho
   have ho':ops[i]? = some o:=by simpa using ho
   rw[Bool.or_eq_false_iff]
   constructor
   ·rw[Bool.eq_false_iff]
    intro hany
    obtain⟨e,he,hb⟩:=List.any_eq_true.1 hany
    simp only[Bool.and_eq_true,beq_iff_eq] at hb
    have:=hi o ho' e he hb.1
    rw[hb.2,hk] at this;cases this
   ·rw[Bool.eq_false_iff]
    intro hany
    obtain⟨e,he,hb⟩:=List.any_eq_true.1 hany
    simp only[Bool.and_eq_true] at hb
    have h1:=hi o ho' e he hb.1
    rw[waitsN_done hD hk n e.on (hD e.on h1)] at hb
    cases hb.2
  ·rfl
def apartB (ops:List Oper)(i j:Nat):Bool:=match ops[i]?,ops[j]? with
 |some a,some b=>Oper.apart ops.toArray a b
 |_,_=>false
def pairOk (ops:List Oper)(a b:Rec):Bool:=
 disj a.g.refs b.g.new&&(waits ops b.i a.i||
  (apartB ops a.i b.i&&disj a.rd b.g.keys&&disj b.rd a.g.keys&&disj (a.g.upd.map (·.1)) b.g.keys&&disj (b.g.upd.map (·.1)) a.g.keys&&disj b.g.refs a.g.new))
def pairsOk (ops:List Oper):List Rec→Bool
 |[]=>true
 |r::rs=>rs.all (pairOk ops r)&&pairsOk ops rs
structure Fresh (l:List Nat) (s:St):Prop where
 slot:∀t,∀i∈(s.slots t).refs,i∉l
 obj:∀k o,s.objs k=some o→∀i∈o.refs,i∉l
theorem Fresh.apply {l:List Nat}{s:St}{g:G}{d:Option Nat}(h:Fresh l s) (hg:∀i∈g.refs,i∉l):Fresh l (g.apply d s):=by
 refine⟨fun t i hi => ?_,fun k o ho i hi => ?_⟩
 ·simp only[G.apply] at hi
  cases hv:g.val with
  |none=>rw[hv] at hi;exact h.slot t i (Qb9 _ i hi).1
  |some x=>
   rw[hv] at hi
   simp only at hi
   split at hi
   ·exact hg i (by simp[G.refs,hv,hi])
   ·exact h.slot t i (Qb9 _ i hi).1
 ·simp only[G.apply] at ho
  cases hl:g.upd.lookup k with
  |some u=>
   rw[hl] at ho
   simp only at ho
   subst ho
   exact hg i (by simp only[G.refs,List.mem_append];exact .inr (Qdj hl i hi))
  |none=>
   rw[hl] at ho
   simp only[Option.map_eq_some_iff] at ho
   obtain⟨o0,h1,rfl⟩:=ho
   exact h.obj k o0 h1 i (Qdt o0 i hi).1
theorem ev_tmp_apply {g:G}{d:Option Nat}{s:St}(hf:Fresh g.new s){t:Nat}(hd:d≠some t):(g.apply d s).slots t=s.slots t:=by
 simp only[G.apply]
 have hk:=kill_id (l:=g.new) (s.slots t) (hf.slot t)
 cases g.val with
 |none=>exact hk
 |some x=>
  simp only[]
  have:(d==some t)=false:=by simpa using hd
  rw[this];exact hk
theorem obj_apply {g:G}{d:Option Nat}{s:St}(hf:Fresh g.new s){k:Nat}(hk:k∉g.keys):(g.apply d s).objs k=s.objs k:=by
 simp only[G.apply]
 have hl:g.upd.lookup k=none:=by
  cases h:g.upd.lookup k with
  |none=>rfl
  |some u=>exact absurd (by simp only[G.keys,List.mem_append];exact .inl (Qd7 h)) hk
 rw[hl]
 simp only[]
 cases ho:s.objs k with
 |none=>rfl
 |some o=>simp only[Option.map_some];rw[Qeq o (hf.obj k o ho)]
theorem actAt_loc {ops:List Oper}{hs:List (Nat×Hint)}{i:Nat}{s:St}{r:Rec}{g:G}{d:Option Nat}{o:Oper}(ho:ops[i]? = some o) (hf:Fresh g.new s)
  (hlook:∀t,d=some t→t∉o.looksAt ops.toArray) (hrd:∀k∈r.rd,k∉g.keys):
  actAt P n ops hs i s=some r↔actAt P n ops hs i (g.apply d s)=some r:=by
 have hslot:∀t,t∈o.looksAt ops.toArray→(g.apply d s).slots t=s.slots t:=fun t ht=>ev_tmp_apply hf fun hd=>hlook t hd ht
 have hev:∀x∈o.op.operands,ev (g.apply d s) x=ev s x:=by
  intro x hx
  cases x with
  |tmp t=>exact hslot t (by
    simp only[Oper.looksAt,List.mem_append]
    exact .inl (List.mem_filterMap.2 ⟨.tmp t,by simpa using hx,rfl⟩))
  |const v=>rfl
  |global g=>rfl
  |func f=>rfl
 have hguard:guardA (g.apply d s) ops o=guardA s ops o:=by
  unfold guardA
  cases hg:o.guard with
  |none=>rfl
  |some jw=>
   obtain⟨j,want⟩:=jw
   simp only[]
   cases hd:(ops[j]?).bind (·.dst) with
   |none=>rfl
   |some t=>
    simp only[]
    rw[hslot t (by
     simp only[Oper.looksAt,List.mem_append,hg]
     refine .inr ?_
     simp[hd])]
 have hrefs:opRefs (g.apply d s) o.op.operands.toList=opRefs s o.op.operands.toList:=by
  have:∀xs:List Operand,(∀x∈xs,ev (g.apply d s) x=ev s x)→opRefs (g.apply d s) xs=opRefs s xs:=by
   intro xs
   induction xs with
   |nil=>intro _;rfl
   |cons x xs ih=>intro h;simp only[opRefs];rw[h x (by simp),ih fun y hy=>h y (by simp[hy])]
  exact this _ fun x hx=>hev x (by simpa using hx)
 have hrd2:rdOf (g.apply d s) o.op=rdOf s o.op:=by unfold rdOf;rw[hrefs]
 unfold actAt
 rw[ho]
 simp only[hguard,hrd2]
 cases hgd:guardA s ops o with
 |none=>exact Iff.rfl
 |some b=>
  cases b with
  |false=>exact Iff.rfl
  |true=>
   simp only[]
   have key:∀(s1 s2:St),s2.base=s1.base→(∀x∈o.op.operands,ev s2 x=ev s1 x)→opRefs s1 o.op.operands.toList=opRefs s o.op.operands.toList→(∀k∈r.rd,s2.objs k=s1.objs k)→∀p g',stepG P n o (hintOf hs i) s1=some (p,g')→r.rd=rdOf s o.op++hintIds (hintOf hs i)→stepG P n o (hintOf hs i) s2=some (p,g'):=by
    intro s1 s2 hb he hr hobj p g' hst hrd'
    cases hbl:blind o.op with
    |true=>rw[stepG_blind hbl he];exact hst
    |false=>
     refine stepG_loc hb (fun x hx=>⟨he x hx,fun k hk=>hobj k ?_⟩) (fun k hk=>hobj k ?_) hst
     ·rw[hrd'];simp only[List.mem_append,rdOf,hbl,Bool.false_eq_true,if_false];rw[←hr];exact .inl (opRefs_mem (by simpa using hx) hk)
     ·rw[hrd'];simp only[List.mem_append];exact .inr hk
   have hob:∀k∈r.rd,(g.apply d s).objs k=s.objs k:=fun k hk=>obj_apply hf (hrd k hk)
   constructor
   ·intro h
    split at h
    ·rename_i p g' hst
     cases h
     rw[key s (g.apply d s) rfl hev rfl hob p g' hst rfl]
    ·cases h
   ·intro h
    split at h
    ·rename_i p g' hst
     cases h
     rw[key (g.apply d s) s rfl (fun x hx=>(hev x hx).symm) hrefs (fun k hk=>(hob k hk).symm) p g' hst rfl]
    ·cases h
theorem actAt_i {ops:List Oper}{hs:List (Nat×Hint)}{i:Nat}{s:St}{r:Rec}(h:actAt P n ops hs i s=some r):∃o,ops[i]? = some o∧r.i=i∧r.dst=o.dst:=by
 unfold actAt at h
 split at h
 ·cases h
 ·rename_i o ho
  split at h
  ·split at h
   ·cases h;exact⟨o,ho,rfl,rfl⟩
   ·cases h
  ·split at h
   ·cases h;exact⟨o,ho,rfl,rfl⟩
   ·cases h
  ·cases h
def news:List Rec→List Nat
 |[]=>[]
 |r::rs=>r.g.new++news rs
theorem news_mem {r:Rec}:∀{rs:List Rec},r∈rs→∀i∈r.g.new,i∈news rs
 |q::rs,hr,i,hi=>by
  simp only[news,List.mem_append]
  rcases List.mem_cons.1 hr with rfl|hr
  ·exact .inl hi
  ·exact .inr (news_mem hr i hi)
theorem news_of {rs:List Rec}{i:Nat}(h:i∈news rs):∃r∈rs,i∈r.g.new:=by
 induction rs with
 |nil=>simp[news] at h
 |cons r rs ih=>
  simp only[news,List.mem_append] at h
  rcases h with h|h
  ·exact⟨r,by simp,h⟩
  ·obtain⟨q,h1,h2⟩:=ih h;exact⟨q,by simp[h1],h2⟩
theorem Fresh.sub {l m:List Nat}{s:St}(h:Fresh l s) (hm:∀i∈m,i∈l):Fresh m s:=
 ⟨fun t i hi hm'=>h.slot t i hi (hm i hm'),fun k o ho i hi hm'=>h.obj k o ho i hi (hm i hm')⟩
theorem take_first {ops:List Oper}{hs:List (Nat×Hint)}(j:Nat):∀(L:List Nat)(s:St)(rs:List Rec)(sf:St),runR P n ops hs L s=some (rs,sf)→pairsOk ops rs=true→Fresh (news rs) s→L.Nodup→j∈L→(∀i∈L,waits ops j i=false)→
  ∃r rs',r∈rs∧r.i=j∧actAt P n ops hs j s=some r∧runR P n ops hs (L.erase j) (r.g.apply r.dst s)=some (rs',sf)∧(∀q∈rs',q∈rs)∧pairsOk ops rs'=true∧Fresh (news rs') (r.g.apply r.dst s)
 |[],_,_,_,_,_,_,_,hj,_=>by simp at hj
 |i::L,s,rs,sf,hrun,hok,hfr,hnd,hj,hw=>by
  simp only[runR] at hrun
  split at hrun
  ·rename_i r hact
   split at hrun
   ·rename_i rs1 s1 hrun1
    cases hrun
    simp only[pairsOk,Bool.and_eq_true] at hok
    obtain⟨hall,hok1⟩:=hok
    have hri:=actAt_i hact
    obtain⟨o,ho,hi,hdst⟩:=hri
    have hfr1:Fresh (news rs1) (r.g.apply r.dst s):=(hfr.sub fun k hk=>by simp only[news,List.mem_append];exact .inr hk).apply fun k hk hn=>by
     obtain⟨q,hq,hkq⟩:=news_of hn
     have:=List.all_eq_true.1 hall q hq
     simp only[pairOk,Bool.and_eq_true] at this
     exact Qbw this.1 k hk hkq
    by_cases hij:i=j
    ·subst hij
     exact⟨r,rs1,by simp,hi,hact,by simpa using hrun1,fun q hq=>by simp[hq],hok1,hfr1⟩
    ·have hjL:j∈L:=by
      rcases List.mem_cons.1 hj with h|h
      ·exact absurd h.symm hij
      ·exact h
     obtain⟨q,rs',hq,hqi,hactq,hrunq,hsub,hok',hfr'⟩:=take_first j L (r.g.apply r.dst s) rs1 sf hrun1 hok1 hfr1 (List.nodup_cons.1 hnd).2 hjL fun k hk=>hw k (by simp[hk])
     obtain⟨oq,hoq,hqi',hqd⟩:=actAt_i hactq
     have hpair:=List.all_eq_true.1 hall q hq
     have hwf:waits ops q.i r.i=false:=by rw[hqi,hi];exact hw i (by simp)
     simp only[pairOk,hwf,Bool.false_or,Bool.and_eq_true] at hpair
     obtain⟨hn1,⟨⟨⟨⟨hap,hrd1⟩,hrd2⟩,hk1⟩,hk2⟩,hn2⟩:=hpair
     have hap':o.apart ops.toArray oq=true:=by
      simp only[apartB,hi,hqi,ho,hoq] at hap;exact hap
     obtain⟨ha1,ha2,ha3⟩:=Oper.apart_spec hap'
     have hfrr:Fresh r.g.new s:=hfr.sub fun k hk=>by simp only[news,List.mem_append];exact .inl hk
     have hfrq:Fresh q.g.new s:=hfr.sub fun k hk=>news_mem (r:=q) (by simp[hq]) k hk
     have hactj:actAt P n ops hs j s=some q:=(actAt_loc hoq hfrr (fun t ht=>ha1 t (by rw[←hdst];exact ht)) (Qbw hrd2)).2 hactq
     have hacti:actAt P n ops hs i (q.g.apply q.dst s)=some r:=(actAt_loc ho hfrq (fun t ht=>ha3 t (by rw[←hqd];exact ht)) (Qbw hrd1)).1 hact
     have hcomm:r.g.apply r.dst (q.g.apply q.dst s)=q.g.apply q.dst (r.g.apply r.dst s):=
      G.comm s (fun t ht=>by rw[hqd];exact ha2 t (by rw[←hdst];exact ht)) (fun k hk h2=>Qbw hk1 k hk (by simp only[G.keys,List.mem_append];exact .inl h2)) (Qbw hn1) (Qbw hn2)
     refine⟨q,r::rs',by simp[hq],hqi,hactj,?_,?_,?_,?_⟩
     ·rw[List.erase_cons_tail (by simpa using hij)]
      simp only[runR,hacti,hcomm,hrunq]
     ·intro x hx
      rcases List.mem_cons.1 hx with rfl|hx
      ·simp
      ·simp[hsub x hx]
     ·simp only[pairsOk,Bool.and_eq_true]
      exact⟨List.all_eq_true.2 fun x hx=>List.all_eq_true.1 hall x (hsub x hx),hok'⟩
     ·have hq0:Fresh (r.g.new) (q.g.apply q.dst s):=hfrr.apply (Qbw hn2)
      have hq1:Fresh (news rs') (q.g.apply q.dst s):=by
       have hfs:Fresh (news rs') s:=hfr.sub fun k hk=>by
        obtain⟨x,hx,hkx⟩:=news_of hk
        exact news_mem (r:=x) (by simp[hsub x hx]) k hkx
       refine⟨fun t k hk hn => ?_,fun m o' hm k hk hn => ?_⟩
       ·have h1:=hfr'.slot t k
        simp only[G.apply] at hk h1
        cases hv:q.g.val with
        |none=>rw[hv] at hk;exact hfs.slot t k (Qb9 _ k hk).1 hn
        |some x=>
         rw[hv] at hk h1
         simp only at hk h1
         split at hk
         ·rename_i he;rw[if_pos he] at h1;exact h1 hk hn
         ·exact hfs.slot t k (Qb9 _ k hk).1 hn
       ·have h1:=hfr'.obj m
        simp only[G.apply] at hm h1
        cases hl:q.g.upd.lookup m with
        |some u=>rw[hl] at hm h1;exact h1 o' hm k hk hn
        |none=>
         rw[hl] at hm
         simp only[Option.map_eq_some_iff] at hm
         obtain⟨o0,h2,rfl⟩:=hm
         exact hfs.obj m o0 h2 k (Qdt o0 k hk).1 hn
      refine⟨fun t k hk hn => ?_,fun m o' hm k hk hn => ?_⟩
      ·simp only[news,List.mem_append] at hn
       rcases hn with hn|hn
       ·exact hq0.slot t k hk hn
       ·exact hq1.slot t k hk hn
      ·simp only[news,List.mem_append] at hn
       rcases hn with hn|hn
       ·exact hq0.obj m o' hm k hk hn
       ·exact hq1.obj m o' hm k hk hn
   ·cases hrun
  ·cases hrun
def lexOk (ops:List Oper):Nat→List Oper→Bool
 |_,[]=>true
 |k,o::r=>o.after.toList.all (fun e => !Region.binds .any e||decide (e.on<k))&&lexOk ops (k+1) r
theorem lexOk_spec:∀{ops:List Oper}{l:List Oper}{k:Nat},lexOk ops k l=true→∀j o,l[j]? = some o→∀e∈o.after,Region.binds .any e=true→e.on<k+j
 |ops,[],k,_,j,o,hj=>by simp at hj
 |ops,p::l,k,h,0,o,hj=>by
  simp only[lexOk,Bool.and_eq_true] at h
  simp at hj;subst hj
  intro e he hb
  have:=List.all_eq_true.1 h.1 e (by simpa using he)
  simpa[hb] using this
 |ops,p::l,k,h,j+1,o,hj=>by
  simp only[lexOk,Bool.and_eq_true] at h
  intro e he hb
  have:=lexOk_spec h.2 j o (by simpa using hj) e he hb
  omega
theorem opAt_of_act {ops:List Oper}{hs:List (Nat×Hint)}{i:Nat}{s:St}{r:Rec}(h:actAt P n ops hs i s=some r):opAt P n ops hs i s=some (r.p,r.g.apply r.dst s):=by
 unfold actAt at h
 unfold opAt
 split at h
 ·cases h
 ·rename_i o ho
  rw[ho]
  simp only[]
  split at h
  ·rename_i hg
   rw[hg]
   simp only[]
   split at h
   ·rename_i p g hst
    cases h
    exact step_eq hst
   ·cases h
  ·rename_i hg
   rw[hg]
   simp only[]
   split at h
   ·rename_i hd
    cases h
    rw[if_pos hd,apply_val]
   ·cases h
  ·cases h
theorem any_order {ops:Array Oper}{hs:List (Nat×Hint)}{Q:Exit→Act→World→Prop}(hlex:lexOk ops.toList 0 ops.toList=true):
  ∀(fuel:Nat)(listed:Array Bool)(L:List Nat)(s:St)(rs:List Rec)(sf:St)(a:Act)(w:World)(ρ:Nat→Value),listed.size=ops.size→L.Nodup→(∀i,i∈L↔i<ops.size∧listed.getD i true=false)→L.length=fuel→List.Pairwise (· < ·) L→
   (∀i,listed.getD i false=true→DepsDone ops listed i)→runR P B.n ops.toList hs L s=some (rs,sf)→pairsOk ops.toList rs=true→Fresh (news rs) s→(∀r∈rs,AllP r.p)→Rel B s a w ρ→(∀a' w' ρ',Rel B sf a' w' ρ'→Q .normal a' w')→
   wpAnyIn (FR B.ro) 0 P .any ops Q fuel listed a w:=by
 intro fuel
 induction fuel with
 |zero=>
  intro listed L s rs sf a w ρ hsz hnd hL hlen hpw hD hrun hok hfr hp hrel hQ
  have hnil:L=[]:=List.eq_nil_of_length_eq_zero hlen
  subst hnil
  simp only[runR,Option.some.injEq,Prod.mk.injEq] at hrun
  obtain⟨_,rfl⟩:=hrun
  refine⟨?_,hQ _ _ _ hrel⟩
  rw[List.eq_nil_iff_forall_not_mem]
  intro i hi
  obtain⟨h1,o,ho,_⟩:=mem_ready.1 hi
  have:i<ops.size:=(Array.getElem?_eq_some_iff.1 ho).1
  have:=(hL i).2 ⟨this,h1⟩
  simp at this
 |succ fuel ih=>
  intro listed L s rs sf a w ρ hsz hnd hL hlen hpw hD hrun hok hfr hp hrel hQ
  refine⟨fun hempty => ?_,fun i hi => ?_⟩
  ·
   exfalso
   match L,hlen,hpw,hL with
   |k::L',_,hpw,hL=>
    have hk:=(hL k).1 (by simp)
    have:k∈Region.ready .any ops listed:=by
     refine mem_ready.2 ⟨hk.2,ops[k],by simp[hk.1],fun e he hb => ?_⟩
     have hlt:=lexOk_spec hlex k ops[k] (by simp[hk.1]) e he hb
     cases hl:listed.getD e.on false with
     |true=>rfl
     |false=>
      have hon:e.on<ops.size:=by omega
      have:listed.getD e.on true=false:=by
       have hon':e.on<listed.size:=by omega
       simp[Array.getD,hon'] at hl ⊢;exact hl
      have hmem:=(hL e.on).2 ⟨hon,this⟩
      rcases List.mem_cons.1 hmem with h1|h1
      ·omega
      ·have:=(List.pairwise_cons.1 hpw).1 _ h1;omega
    rw[hempty] at this
    simp at this
  ·obtain⟨h1,o,ho,hall⟩:=mem_ready.1 hi
   have hlt:i<ops.size:=(Array.getElem?_eq_some_iff.1 ho).1
   have hiL:i∈L:=(hL i).2 ⟨hlt,h1⟩
   have hw:∀k∈L,waits ops.toList i k=false:=by
    intro k hk
    have hkk:=(hL k).1 hk
    have hks:k<listed.size:=by omega
    have h2:=hkk.2
    refine waitsN_done hD (by simp[Array.getD,hks] at h2 ⊢;exact h2) 3 i fun o' ho' e he hb => ?_
    rw[ho] at ho';cases ho'
    exact hall e (by simpa using he) hb
   obtain⟨r,rs',hr,hri,hact,hrun',hsub,hok',hfr'⟩:=take_first i L s rs sf hrun hok hfr hnd hiL hw
   have hop:=opAt_of_act hact
   have:=Qd0 (Q:=Q) (K:=wpAnyIn (FR B.ro) 0 P .any ops Q fuel (listed.setIfInBounds i true)) hrel hop (hp r hr) fun a' w' ρ' hrel'=>by
    refine ih (listed.setIfInBounds i true) (L.erase i) _ rs' sf a' w' ρ' (by simpa using hsz) (hnd.erase i) (fun k => ?_) (by rw[List.length_erase_of_mem hiL];omega) (hpw.sublist (List.erase_sublist)) (fun k hk o' ho' e he hb => ?_) hrun' hok' hfr' (fun q hq=>hp q (hsub q hq)) hrel' hQ
    rw[hnd.mem_erase_iff,hL k]
    by_cases hki:k=i
    ·subst hki
     have hks:k<listed.size:=by omega
     simp[Array.getD,hks]
    ·have e:(listed.setIfInBounds i true).getD k true=listed.getD k true:=getD_set_ne true (fun h=>hki h.symm)
     rw[e]
     exact⟨fun h=>h.2,fun h=>⟨hki,h⟩⟩
    have up:∀m,listed.getD m false=true→(listed.setIfInBounds i true).getD m false=true:=by
     intro m hm
     by_cases hmi:m=i
     ·subst hmi
      have hks:m<listed.size:=by omega
      simp[Array.getD,hks]
     ·rw[getD_set_ne false (fun h=>hmi h.symm)];exact hm
    by_cases hki:k=i
    ·subst hki
     rw[ho] at ho';cases ho'
     exact up _ (hall e (by simpa using he) hb)
    ·rw[getD_set_ne false (fun h=>hki h.symm)] at hk
     exact up _ (hD k hk o' ho' e he hb)
   exact wpOpIn_of this
end Go.Ab
