import Derived.Test.YtjlkmdmaimednaaGreatAbK
set_option linter.unusedVariables false
set_option linter.unusedSimpArgs false
namespace Go.Ab
theorem eCall_any {P:Program}{B:Base}{s:St}{a:Act}{w:World}{ρ:Nat→Value}(h:Rel B s a w ρ){o:Oper}{f:Operand}{args:Array Operand}{tys:Array TypeId}(ho:o.op = .call { callee := .value f,args:=args,argTypes:=tys }){g:FuncId}{cap:List A}(hcal:calleeOf s f=some (g,cap)){ids:List Nat}{os:List (Nat×O)}(hpk:pickO s ids=some os)
  {R:A→List (Nat×O)→Prop} (hc:Con P g (args.toList.map (ev s)++cap) os R)
  (hR:∀r' os',R r' os'→(newIds ids os').all (idOk s)=true∧r'.only (keptIds ids++newIds ids os')=true∧os'.all (fun p=>p.2.only (keptIds ids++newIds ids os'))=true) (hd:∀d,o.dst=some d→d<B.n):
  ∃g us,(execOp a.eval o).run P w = .ok (.enter g us) w∧Calls P g us w (fun e w'=>∃u ρ' r' os',R r' os'∧e = .returned u∧Rel B ((s.after ids (newIds ids os') os').putO o.dst r') (a.put o.dst u) w' ρ'):=by
 obtain⟨hent,hcon⟩:=hc
 unfold calleeOf at hcal
 split at hcal
 ·rename_i g' cap' hef
  cases hcal
  have hf:=h.opd f
  rw[hef] at hf;simp only[relA] at hf
  obtain⟨cs,hf1,hf2⟩:=hf
  refine⟨g,(args.toList.map a.eval++cs.toList).toArray,?_,?_⟩
  ·have e:(args.toList.map a.eval++cs.toList).toArray=args.map a.eval++cs:=by rw[←Array.toList_inj];simp
   rw[e,←hent]
   simp[execOp,ho,resolve,hf1,Deferred.ofValue,invoke]
  ·have hpick:=Qdu hpk
   have hview:view (fun b=>B.hid b∨(own ρ s.objs b∧¬ own ρ (ofO os) b)) (own ρ (ofO os)) w=view B.hid (own ρ s.objs) w:=by
    funext b off
    have hiff:(own ρ (ofO os) b∨(B.hid b∨(own ρ s.objs b∧¬ own ρ (ofO os) b)))↔(own ρ s.objs b∨B.hid b):=by
     constructor
     ·rintro (h4|h4|h4)
      ·obtain⟨i,hi,hb⟩:=h4
       by_cases hid:i∈ids
       ·exact .inl ⟨i,((hpick i).1 hid).2,hb⟩
       ·rw[(hpick i).2 hid] at hi;cases hi
      ·exact .inr h4
      ·exact .inl h4.1
     ·rintro (h4|h4)
      ·by_cases h5:own ρ (ofO os) b
       ·exact .inl h5
       ·exact .inr (.inr ⟨h4,h5⟩)
      ·exact .inr (.inl h4)
    unfold view
    by_cases hq:own ρ s.objs b∨B.hid b
    ·rw[if_pos (hiff.2 hq),if_pos hq]
    ·rw[if_neg (fun hq'=>hq (hiff.1 hq')),if_neg hq]
   have hownP:∀b,own ρ (ofO os) b→own ρ s.objs b:=by
    rintro b ⟨i,hi,hb⟩
    by_cases hid:i∈ids
    ·exact⟨i,((hpick i).1 hid).2,hb⟩
    ·rw[(hpick i).2 hid] at hi;cases hi
   have hobj:∀i o,ofO os i=some o→s.objs i=some o:=fun i o hi=>by
    by_cases hid:i∈ids
    ·rw[← ((hpick i).1 hid).1];exact hi
    ·rw[(hpick i).2 hid] at hi;cases hi
   have hheap:Heap (fun b=>B.hid b∨(own ρ s.objs b∧¬ own ρ (ofO os) b)) ρ (ofO os) w:=by
    refine⟨fun i o hi => ?_,fun i j b hi hj => ?_,fun b hb => ?_,fun b hb => ?_⟩
    ·rw[hview];exact h.heap.obj i o (hobj i o hi)
    ·obtain⟨o1,e1⟩:=Option.isSome_iff_exists.1 hi
     obtain⟨o2,e2⟩:=Option.isSome_iff_exists.1 hj
     exact h.heap.dis i j b (by simp[hobj i o1 e1]) (by simp[hobj j o2 e2])
    ·rintro (h4|h4)
     ·exact h.heap.nhid b (hownP b hb) h4
     ·exact h4.2 hb
    ·rcases hb with h4|h4
     ·exact h.heap.hlt b h4
     ·exact h.own_lt h4.1
   have hargs:relAs ρ (view (fun b=>B.hid b∨(own ρ s.objs b∧¬ own ρ (ofO os) b)) (own ρ (ofO os)) w) ((args.toList.map (ev s)++cap)) (args.toList.map a.eval++cs.toList):=by
    rw[hview];exact Qbv (Qev h _) hf2
   refine(hcon _ ρ w _ hheap hargs).mono ?_
   rintro e w' ⟨r',os1,σ,u,hRR,rfl,hH,hrr,hF,hkp⟩
   obtain⟨h1,h2,h3⟩:=hR r' os1 hRR
   have hmem:∀i,(ofO os1 i).isSome=true↔i∈os1.map (·.1):=by
    intro i
    constructor
    ·intro hi
     obtain⟨o1,e1⟩:=Option.isSome_iff_exists.1 hi
     exact List.mem_map.2 ⟨(i,o1),Qcw e1,rfl⟩
    ·intro h4
     obtain⟨q,hq,rfl⟩:=List.mem_map.1 h4
     have:os1.lookup q.1≠none:=by
      intro hn
      rw[List.lookup_eq_none_iff] at hn
      have:=hn q hq
      simp at this
     exact Option.isSome_iff_ne_none.2 this
   have hnewmem:∀i,i∈newIds ids os1↔i∈os1.map (·.1)∧(i∉ids∨loose i=true):=by
    intro i;simp[newIds,List.mem_filter]
   obtain⟨hrel,hres⟩:=h.call (new:=newIds ids os1) hpick
    (fun i hi=>by
     by_cases hid:i∈ids∧loose i=false
     ·left;simpa[keptIds] using hid
     ·right
      refine(hnewmem i).2 ⟨(hmem i).1 hi,?_⟩
      by_cases h5:i∈ids
      ·right
       cases h6:loose i with
       |true=>rfl
       |false=>exact absurd ⟨h5,h6⟩ hid
      ·exact .inl h5)
    (fun i hi=>(hmem i).2 ((hnewmem i).1 hi).1)
    (fun i hi=>Qan (List.all_eq_true.1 h1 i hi))
    (fun i o1 hi=>by
     have:=List.all_eq_true.1 h3 (i,o1) (Qcw hi)
     exact this)
    hH hF hkp
   exact⟨u,_,r',os1,hRR,rfl,hrel.putO hd (hres _ u h2 hrr)⟩
 ·cases hcal
end Go.Ab
