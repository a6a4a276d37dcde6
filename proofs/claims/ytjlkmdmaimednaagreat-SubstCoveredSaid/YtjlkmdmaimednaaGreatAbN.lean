import Derived.Test.YtjlkmdmaimednaaGreatAbM
set_option linter.unusedVariables false
set_option linter.unusedSimpArgs false
namespace Go.Ab
variable {P:Program} {n:Nat} {s s':St}
def hintIds:Hint→List Nat
 |h=>match callInfo h with|some (_,ids,ro,_,_)=>ids++ro|none=>[]
def opRefs (s:St):List Operand→List Nat
 |[]=>[]
 |x::xs=>(ev s x).refs++opRefs s xs
theorem opRefs_mem {x:Operand}:∀{xs:List Operand}{i:Nat},x∈xs→i∈(ev s x).refs→i∈opRefs s xs
 |y::ys,i,hx,hi=>by
  simp only[opRefs,List.mem_append]
  rcases List.mem_cons.1 hx with rfl|hx
  ·exact .inl hi
  ·exact .inr (opRefs_mem hx hi)
structure Agr (s s':St) (x:Operand):Prop where
 ev:ev s' x=ev s x
 obj:∀i∈(Ab.ev s x).refs,s'.objs i=s.objs i
theorem Qdh {x:A}(h:∀i∈x.refs,s'.objs i=s.objs i):one s' x=one s x:=by
 cases x with
 |ref i=>simp only[one];rw[h i (by simp[A.refs])]
 |t y=>cases y<;>rfl
 |_=>rfl
theorem all_loc:∀{xs:List A},(∀i∈A.refsL xs,s'.objs i=s.objs i)→xs.all (one s')=xs.all (one s)
 |[],_=>rfl
 |x::xs,h=>by
  simp only[A.refsL,List.mem_append] at h
  simp only[List.all_cons]
  rw[Qdh fun i hi=>h i (.inl hi),all_loc fun i hi=>h i (.inr hi)]
theorem Qek {x:A}(h:∀i∈x.refs,s'.objs i=s.objs i):cells? s' x=cells? s x:=by
 cases x with
 |agg xs=>simp only[cells?];rw[all_loc (by simpa only[A.refs] using h)]
 |dead=>rfl
 |t y=>simp only[cells?];rw[Qdh h]
 |ref i=>simp only[cells?];rw[Qdh h]
 |«at» i o=>simp only[cells?];rw[Qdh h]
 |elt i k m o=>simp only[cells?];rw[Qdh h]
 |tup xs=>simp only[cells?];rw[Qdh h]
 |fn f xs=>simp only[cells?];rw[Qdh h]
theorem vLoad_loc {t:TypeId}{x:Operand}{h:Hint}{r:List Prop×A}(hx:Agr s s' x) (hv:vLoad P t x h s=some r):vLoad P t x h s'=some r:=by
 have ho:=hx.obj
 unfold vLoad at hv
 split at hv
 ·rename_i i off he
  rw[he] at ho;rw[←ho i (by simp[A.refs])] at hv
  unfold vLoad;rw[hx.ev,he];exact hv
 ·rename_i i k m off he
  rw[he] at ho;rw[←ho i (by simp[A.refs])] at hv
  unfold vLoad;rw[hx.ev,he];exact hv
 ·rename_i cs he;unfold vLoad;rw[hx.ev,he];exact hv
 ·cases hv
theorem vFieldAddr_loc {t:TypeId}{x:Operand}{f:Nat}(hx:Agr s s' x):vFieldAddr P t x f s'=vFieldAddr P t x f s:=by unfold vFieldAddr;rw[hx.ev]
theorem vField_loc {t:TypeId}{x:Operand}{f:Nat}(hx:Agr s s' x):vField P t x f s'=vField P t x f s:=by unfold vField;rw[hx.ev]
theorem vIndexAddr_loc {t:TypeId}{x i:Operand}{h:Hint}{r:List Prop×A}(hx:Agr s s' x) (hi:Agr s s' i) (hv:vIndexAddr P t x i h s=some r):vIndexAddr P t x i h s'=some r:=by
 have ho:=hx.obj
 unfold vIndexAddr at hv
 split at hv
 ·rename_i m k i' hm hz
  split at hv
  ·rename_i m' rows n r' he
   unfold vIndexAddr;rw[hx.ev,hi.ev];simp only[hm,hz,he];exact hv
  ·rename_i j n he
   rw[he] at ho;rw[←ho j (by simp[A.refs])] at hv
   unfold vIndexAddr;rw[hx.ev,hi.ev];simp only[hm,hz,he];exact hv
  ·cases hv
 ·cases hv
theorem vIndex_loc {t:TypeId}{x i:Operand}{h:Hint}(hx:Agr s s' x) (hi:Agr s s' i):vIndex P t x i h s'=vIndex P t x i h s:=by unfold vIndex;rw[hx.ev,hi.ev]
theorem vExtract_loc {x:Operand}{i:Nat}(hx:Agr s s' x):vExtract x i s'=vExtract x i s:=by unfold vExtract;rw[hx.ev]
theorem vNilCheck_loc {x:Operand}(hx:Agr s s' x):vNilCheck x s'=vNilCheck x s:=by unfold vNilCheck;rw[hx.ev]
theorem map_loc {lo:Option Operand}(hl:∀x,lo=some x→Agr s s' x):lo.map (ev s')=lo.map (ev s):=by
 cases lo with
 |none=>rfl
 |some x=>simp[(hl x rfl).ev]
theorem vSlice_loc {t:TypeId}{x:Operand}{lo hi:Option Operand}{h:Hint}{r:List Prop×A}(hx:Agr s s' x) (hl:∀x,lo=some x→Agr s s' x) (hh:∀x,hi=some x→Agr s s' x) (hv:vSlice P t x lo hi h s=some r):vSlice P t x lo hi h s'=some r:=by
 by_cases hr:∃j,ev s x = .ref j
 ·obtain⟨j,hj⟩:=hr
  have ho:=hx.obj
  rw[hj] at ho
  have ho:=ho j (by simp[A.refs])
  have hj':ev s' x = .ref j:=by rw[hx.ev,hj]
  unfold vSlice at hv
  rw[hj] at hv
  split at hv
  ·rename_i he;cases he
  ·rename_i e j' l u hu he
   cases he
   unfold vSlice;rw[hj',map_loc hl,map_loc hh]
   simp only[hu];rw[ho];exact hv
  ·rename_i he;cases he
  ·cases hv
 ·have:vSlice P t x lo hi h s'=vSlice P t x lo hi h s:=by
   unfold vSlice;rw[hx.ev,map_loc hl,map_loc hh]
   split
   ·rfl
   ·rename_i e j l u hu he;exact absurd ⟨j,he⟩ hr
   ·rfl
   ·rfl
  rw[this];exact hv
theorem vLen_loc {t:TypeId}{x:Operand}{r:List Prop×A}(hx:Agr s s' x) (hv:vLen P t x s=some r):vLen P t x s'=some r:=by
 have ho:=hx.obj
 unfold vLen at hv
 split at hv
 ·rename_i e m rows hu he;unfold vLen;rw[hx.ev];simp only[hu,he];exact hv
 ·rename_i e m rows hu he;unfold vLen;rw[hx.ev];simp only[hu,he];exact hv
 ·rename_i e j hu he
  rw[he] at ho;rw[←ho j (by simp[A.refs])] at hv
  unfold vLen;rw[hx.ev];simp only[hu,he];exact hv
 ·rename_i e ad m cap hu he;unfold vLen;rw[hx.ev];simp only[hu,he];exact hv
 ·rename_i b hu he;unfold vLen;rw[hx.ev];simp only[hu,he];exact hv
 ·cases hv
theorem vNil_loc {op:BinOp}{t:TypeId}{x y:Operand}(hx:Agr s s' x) (hy:Agr s s' y):vNil P op t x y s'=vNil P op t x y s:=by unfold vNil;rw[hx.ev,hy.ev]
theorem vArith_loc {op:BinOp}{x y:Operand}{h:Hint}(hx:Agr s s' x) (hy:Agr s s' y):vArith op x y h s'=vArith op x y h s:=by unfold vArith;rw[hx.ev,hy.ev]
theorem vShift_loc {op:BinOp}{x y:Operand}{h:Hint}(hx:Agr s s' x) (hy:Agr s s' y):vShift op x y h s'=vShift op x y h s:=by unfold vShift;rw[hx.ev,hy.ev]
theorem vEqS_loc {op:BinOp}{t:TypeId}{x y:Operand}(hx:Agr s s' x) (hy:Agr s s' y):vEqS P op t x y s'=vEqS P op t x y s:=by unfold vEqS;rw[hx.ev,hy.ev]
theorem vConv_loc {a b:TypeId}{x:Operand}{h:Hint}(hx:Agr s s' x):vConv P a b x h s'=vConv P a b x h s:=by unfold vConv;rw[hx.ev]
theorem Qgg {xs:List Operand}(h:∀x∈xs,Agr s s' x):xs.map (ev s')=xs.map (ev s):=List.map_congr_left fun x hx=>(h x hx).ev
theorem vMinMax_loc {mn:Bool}{xs:List Operand}(h:∀x∈xs,Agr s s' x):vMinMax mn xs s'=vMinMax mn xs s:=by unfold vMinMax;rw[Qgg h]
theorem vStill_loc {o:Oper}(h:∀x∈o.op.operands,Agr s s' x):vStill P o s'=vStill P o s:=by
 unfold vStill
 have h1:vals s' o.op.operands.toList=vals s o.op.operands.toList:=by
  unfold vals
  rw[Bool.eq_iff_iff,List.all_eq_true,List.all_eq_true]
  constructor
  ·intro h2 x hx;have:=h2 x hx;rwa [(h x (by simpa using hx)).ev] at this
  ·intro h2 x hx;have:=h2 x hx;rwa [(h x (by simpa using hx)).ev]
 rw[h1]
 by_cases hn:notSelect o.op=true
 ·rw[execOp_congr (ρ:=evV s') (ρ':=evV s) o (by intro cs b e;rw[e] at hn;simp[notSelect] at hn) fun x hx=>by unfold evV;rw[(h x hx).ev]]
 ·simp[hn]
theorem Qfi:∀{ps:List (Nat×Operand)},(∀p∈ps,Agr s s' p.2)→partsA s' ps=partsA s ps
 |[],_=>rfl
 |(i,x)::ps,h=>by
  have hx:=h (i,x) (by simp)
  simp only[partsA]
  rw[hx.ev,Qek hx.obj,Qfi fun p hp=>h p (by simp[hp])]
theorem vBuild_loc {t:TypeId}{ps:List (Nat×Operand)}(h:∀p∈ps,Agr s s' p.2):vBuild P t ps s'=vBuild P t ps s:=by unfold vBuild;rw[Qfi h]
theorem Qbt {x:A}(h:∀i∈x.refs,s'.objs i=s.objs i):mapAt s' x=mapAt s x:=by
 cases x with
 |ref i=>simp only[mapAt];rw[h i (by simp[A.refs])]
 |_=>rfl
theorem vTs_loc {agg:Bool}{x:A}(h:∀i∈x.refs,s'.objs i=s.objs i):vTs s' agg x=vTs s agg x:=by
 cases x with
 |agg xs=>cases agg<;>simp only[vTs];rw[all_loc (by simpa only[A.refs] using h)]
 |t y=>cases agg<;>simp only[vTs];rw[Qdh h]
 |_=>cases agg<;>rfl
theorem vLookup_loc {t:TypeId}{m k:Operand}{ok:Bool}{h:Hint}{r:List Prop×A}(hm:Agr s s' m) (hk:Agr s s' k) (hv:vLookup P t m k ok h s=some r):vLookup P t m k ok h s'=some r:=by
 have ho:=hm.obj
 unfold vLookup at hv ⊢
 split at hv
 ·unfold vLookupL at hv ⊢
  split at hv
  ·rename_i kd et i j kv he hm' hk'
   rw[hm'] at ho;rw[←ho j (by simp[A.refs])] at hv
   rw[hm.ev,hk.ev];simp only[he,hm',hk'];exact hv
  ·cases hv
 unfold vLookup0 at hv
 split at hv
 ·rename_i kd et i j kv r' he hm' hk' _
  rw[hm'] at ho;rw[←ho j (by simp[A.refs])] at hv
  unfold vLookup0;rw[hm.ev,hk.ev];simp only[he,hm',hk'];exact hv
 ·cases hv
theorem valueOp_loc {o:Oper}{h:Hint}{r:List Prop×A}(hx:∀x∈o.op.operands,Agr s s' x) (hv:valueOp P o h s=some r):valueOp P o h s'=some r:=by
 obtain⟨dst,op,ty,pos,aft,gd⟩:=o
 have hst:=vStill_loc (P:=P) (o:=⟨dst,op,ty,pos,aft,gd⟩) hx
 unfold valueOp vOp at hv ⊢
 dsimp only at hx hv ⊢
 cases op<;>simp only[Op.operands] at hx hv ⊢<;>try (cases hv;done)
 case build t ps=>
  rw[vBuild_loc fun p hp=>hx p.2 (by simp only[List.mem_toArray,List.mem_map];exact⟨p,hp,rfl⟩)];exact hv
 case lookup t m k ok=>exact vLookup_loc (hx m (by simp)) (hx k (by simp)) hv
 case move x=>rw[(hx x (by simp)).ev];exact hv
 case assign x=>rw[(hx x (by simp)).ev];exact hv
 case load t x=>
  split at hv
  ·rename_i hc;rw[if_pos hc];exact vLoad_loc (hx x (by simp)) hv
  ·cases hv
 case fieldAddr t x f=>rw[vFieldAddr_loc (hx x (by simp))];exact hv
 case field t x f=>rw[vField_loc (hx x (by simp))];exact hv
 case indexAddr t x i=>exact vIndexAddr_loc (hx x (by simp)) (hx i (by simp)) hv
 case index t x i=>rw[vIndex_loc (hx x (by simp)) (hx i (by simp))];exact hv
 case extract x i=>rw[vExtract_loc (hx x (by simp))];exact hv
 case pick c x y=>rw[(hx c (by simp)).ev,(hx x (by simp)).ev,(hx y (by simp)).ev];exact hv
 case nilCheck x=>rw[vNilCheck_loc (hx x (by simp))];exact hv
 case slice t x lo hi mx=>
  cases mx with
  |none=>dsimp only at hv ⊢;exact vSlice_loc (hx x (by simp)) (fun y hy=>hx y (by simp[hy])) (fun y hy=>hx y (by simp[hy])) hv
  |some m=>dsimp only at hv;cases hv
 case binOp op t x y yt=>rw[vArith_loc (hx x (by simp)) (hx y (by simp)),vShift_loc (hx x (by simp)) (hx y (by simp)),vEqS_loc (hx x (by simp)) (hx y (by simp)),vNil_loc (hx x (by simp)) (hx y (by simp)),hst];exact hv
 case convert a b x=>rw[vConv_loc (hx x (by simp)),hst];exact hv
 case unOp a b x=>rw[hst];exact hv
 case makeFunc fn fs cs=>
  unfold vMk at hv ⊢
  rw[Qgg fun x hx'=>hx x (by simp;exact .inr (by simpa using hx'))];exact hv
 case call c=>
  obtain⟨cal,args,tys⟩:=c
  cases cal with
  |value f=>cases hv
  |invoke r m=>cases hv
  |builtin b=>
   simp only[Call.operands] at hx
   cases b<;>try (cases hv;done)
   case len=>
    dsimp only at hv ⊢
    split at hv
    ·rename_i x t h1 h2
     exact vLen_loc (hx x (by have:x∈args.toList:=by rw[h1];simp
                              simpa using this)) hv
    ·cases hv
   case max=>dsimp only at hv ⊢;rw[vMinMax_loc fun x hx'=>hx x (by simpa using hx')];exact hv
   case min=>dsimp only at hv ⊢;rw[vMinMax_loc fun x hx'=>hx x (by simpa using hx')];exact hv
theorem idOk_loc (hb:s'.base=s.base) (k:Nat):idOk s' k=idOk s k:=by unfold idOk;rw[hb]
theorem rowsOf_loc {x:A}{r:Option Nat×List (List T)}(h:∀i∈x.refs,s'.objs i=s.objs i) (hv:rowsOf s x=some r):rowsOf s' x=some r:=by
 unfold rowsOf at hv
 split at hv
 ·rename_i j;rw[←h j (by simp[A.refs])] at hv;exact hv
 ·exact hv
 ·exact hv
 ·exact hv
 ·cases hv
theorem pickO_loc:∀{ids:List Nat},(∀i∈ids,s'.objs i=s.objs i)→pickO s' ids=pickO s ids
 |[],_=>rfl
 |i::ids,h=>by simp only[pickO];rw[h i (by simp),pickO_loc fun j hj=>h j (by simp[hj])]
theorem pickOs_loc:∀{ids:List Nat},(∀i∈ids,s'.objs i=s.objs i)→pickOs s'.objs ids=pickOs s.objs ids
 |[],_=>rfl
 |i::l,h=>by
  simp only[pickOs]
  rw[h i (by simp),pickOs_loc fun j hj=>h j (by simp[hj])]
mutual
theorem ro_loc {g g':Nat→Option O}:∀(x:A),(∀i∈x.refs,g' i=g i)→roA g' x=roA g x
 |.dead,_=>rfl
 |.t _,_=>rfl
 |.agg xs,h=>by simp only[roA];rw[roL_loc xs (by simpa only[A.refs] using h)]
 |.ref j,h=>by simp only[roA];rw[h j (by simp[A.refs])]
 |.at _ _,_=>rfl
 |.elt _ _ _ _,_=>rfl
 |.tup xs,h=>by simp only[roA];rw[roL_loc xs (by simpa only[A.refs] using h)]
 |.fn f xs,h=>by simp only[roA];rw[roL_loc xs (by simpa only[A.refs] using h)]
theorem roL_loc {g g':Nat→Option O}:∀(xs:List A),(∀i∈A.refsL xs,g' i=g i)→roL g' xs=roL g xs
 |[],_=>rfl
 |x::xs,h=>by
  simp only[A.refsL,List.mem_append] at h
  simp only[roL];rw[ro_loc x fun i hi=>h i (.inl hi),roL_loc xs fun i hi=>h i (.inr hi)]
end
theorem refsL_mem {x:A}:∀{xs:List A}{i:Nat},x∈xs→i∈x.refs→i∈A.refsL xs
 |y::ys,i,hx,hi=>by
  simp only[A.refsL,List.mem_append]
  rcases List.mem_cons.1 hx with rfl|hx
  ·exact .inl hi
  ·exact .inr (refsL_mem hx hi)
theorem refsL_of:∀{xs:List A}{i:Nat},i∈A.refsL xs→∃x∈xs,i∈x.refs
 |[],i,h=>by simp[A.refsL] at h
 |x::xs,i,h=>by
  simp only[A.refsL,List.mem_append] at h
  rcases h with h|h
  ·exact⟨x,by simp,h⟩
  ·obtain⟨y,h1,h2⟩:=refsL_of h;exact⟨y,by simp[h1],h2⟩
theorem stepG0_loc {o:Oper}{h:Hint}{r:List Prop×G}(hb:s'.base=s.base) (hx:∀x∈o.op.operands,Agr s s' x) (hi:∀i∈hintIds h,s'.objs i=s.objs i) (hv:stepG0 P n o h s=some r):stepG0 P n o h s'=some r:=by
 obtain⟨dst,op,ty,pos,aft,gd⟩:=o
 have hid:=idOk_loc hb
 have last:((valueOp P ⟨dst,op,ty,pos,aft,gd⟩ h s).bind (vDir h)).map (fun r=>(r.1,(⟨some r.2,[],[]⟩:G)))=some r→((valueOp P ⟨dst,op,ty,pos,aft,gd⟩ h s').bind (vDir h)).map (fun r=>(r.1,(⟨some r.2,[],[]⟩:G)))=some r:=by
  intro hl
  simp only[Option.map_eq_some_iff,Option.bind_eq_some_iff] at hl
  obtain⟨r1,⟨r0,h1,h2⟩,h3⟩:=hl
  rw[valueOp_loc hx h1]
  simp only[Option.bind_some,h2,Option.map_some,h3]
 unfold stepG0 at hv ⊢
 dsimp only at hx hv ⊢
 split at hv
 ·rename_i hd
  rw[if_pos hd]
  cases op<;>simp only[Op.operands] at hx hv last ⊢<;>try (exact last hv)
  case box e x=>
   have:=hx x (by simp)
   unfold gBox at hv ⊢;rw[this.ev,Qek this.obj];simp only[hid];exact hv
  case alloc e=>unfold gAlloc at hv ⊢;simp only[hid];exact hv
  case store t ad x=>
   have h1:=hx ad (by simp)
   have h2:=hx x (by simp)
   split at hv
   ·rename_i hn
    rw[if_pos hn]
    have ho:=h1.obj
    unfold gStore at hv
    split at hv
    ·rename_i i off ys he hy
     rw[he] at ho;rw[←ho i (by simp[A.refs])] at hv
     unfold gStore;rw[h1.ev,h2.ev,Qek h2.obj];simp only[he,hy];exact hv
    ·rename_i i k m off ys he hy
     rw[he] at ho;rw[←ho i (by simp[A.refs])] at hv
     unfold gStore;rw[h1.ev,h2.ev,Qek h2.obj];simp only[he,hy];exact hv
    ·cases hv
   ·cases hv
  case buildSlice t len ps=>
   unfold gBuildSlice at hv ⊢
   rw[Qfi fun p hp=>hx p.2 (by simp only[List.mem_toArray,List.mem_map];exact⟨p,hp,rfl⟩)]
   simp only[hid];exact hv
  case makeSlice t l c=>
   cases dst with
   |none=>cases hv
   |some d=>unfold gMake at hv ⊢;rw[(hx l (by simp)).ev,(hx c (by simp)).ev];simp only[hid];exact hv
  case makeMap t rs=>
   cases rs with
   |none=>unfold gMakeMap at hv ⊢;simp only[hid];exact hv
   |some x=>exact last hv
  case mapUpdate t m k v=>
   split at hv
   ·rename_i hn
    rw[if_pos hn]
    unfold gMapUpdate at hv ⊢
    split at hv
    ·rw[(hx m (by simp)).ev,Qbt (hx m (by simp)).obj,(hx k (by simp)).ev,(hx v (by simp)).ev]
     simp only[vTs_loc (hx v (by simp)).obj];exact hv
    unfold gMapUpdate0 at hv ⊢
    rw[(hx m (by simp)).ev,Qbt (hx m (by simp)).obj,(hx k (by simp)).ev,(hx v (by simp)).ev]
    simp only[vTs_loc (hx v (by simp)).obj];exact hv
   ·cases hv
  case mapEntry t m k=>
   unfold gMapEntry at hv ⊢
   split at hv
   ·rw[(hx m (by simp)).ev,Qbt (hx m (by simp)).obj,(hx k (by simp)).ev];exact hv
   unfold gMapEntry0 at hv ⊢
   rw[(hx m (by simp)).ev,Qbt (hx m (by simp)).obj,(hx k (by simp)).ev];exact hv
  case entryStore t m x v=>
   split at hv
   ·rename_i hn
    rw[if_pos hn]
    unfold gEntryStore at hv ⊢
    split at hv
    ·rw[(hx m (by simp)).ev,Qbt (hx m (by simp)).obj,(hx x (by simp)).ev,(hx v (by simp)).ev]
     simp only[vTs_loc (hx v (by simp)).obj];exact hv
    unfold gEntryStore0 at hv ⊢
    rw[(hx m (by simp)).ev,Qbt (hx m (by simp)).obj,(hx x (by simp)).ev,(hx v (by simp)).ev]
    simp only[vTs_loc (hx v (by simp)).obj];exact hv
   ·cases hv
  case next x b=>
   cases b with
   |false=>cases hv
   |true=>exact last hv
  case call c=>
   obtain⟨cal,args,tys⟩:=c
   cases cal with
   |invoke r m=>exact last hv
   |builtin b=>
    simp only[Call.operands] at hx
    cases b<;>try (exact last hv)
    case delete=>
     dsimp only at hv ⊢
     split at hv
     ·rename_i m k t t2 h1 h2
      have h3:=hx m (by have:m∈args.toList:=by rw[h1];simp
                        simpa using this)
      have h4:=hx k (by have:k∈args.toList:=by rw[h1];simp
                        simpa using this)
      unfold gDelete at hv ⊢
      split at hv
      ·rw[h3.ev,Qbt h3.obj,h4.ev];exact hv
      unfold gDelete0 at hv ⊢
      rw[h3.ev,Qbt h3.obj,h4.ev];exact hv
     ·cases hv
    case append=>
     dsimp only at hv ⊢
     split at hv
     ·rename_i x y t t2 h1 h2
      have h3:=hx x (by have:x∈args.toList:=by rw[h1];simp
                        simpa using this)
      have h4:=hx y (by have:y∈args.toList:=by rw[h1];simp
                        simpa using this)
      have ho:=h3.obj
      unfold gAppend at hv
      split at hv
      ·rename_i d e hu
       split at hv
       ·rename_i i m2 new hi' hr
        have hr':=rowsOf_loc h4.obj hr
        split at hv
        ·rename_i hc
         split at hv
         ·rename_i z hz he
          rw[hz] at hc
          unfold gAppend;rw[h3.ev,h4.ev];simp only[hu,hi',hr',hid,hc,if_true,hz,he];exact hv
         ·rename_i z j hz he
          rw[hz] at hc
          rw[he] at ho;rw[←ho j (by simp[A.refs])] at hv
          unfold gAppend;rw[h3.ev,h4.ev];simp only[hu,hi',hr',hid,hc,if_true,hz,he];exact hv
         ·cases hv
        ·cases hv
       ·cases hv
      ·cases hv
     ·cases hv
   |value f=>
    simp only[Call.operands] at hx
    dsimp only at hv ⊢
    have e:idOk s'=idOk s:=funext hid
    split at hv
    ·rename_i nl0 r0 _
     have hf:=hx f (by simp)
     unfold gRO calleeOf at hv ⊢
     rw[hf.ev]
     split at hv
     ·rename_i g cap hc
      split at hc
      ·rename_i g' cap' hfe
       cases hc
       rw[Qgg fun x hx'=>hx x (by simp;exact .inr (by simpa using hx'))]
       rw[roL_loc _ fun i hi' => ?_]
       ·exact hv
       ·obtain⟨y,hy,hyi⟩:=refsL_of hi'
        rcases List.mem_append.1 hy with hy|hy
        ·obtain⟨z,hz,rfl⟩:=List.mem_map.1 hy
         exact(hx z (by simp;exact .inr (by simpa using hz))).obj i hyi
        ·exact hf.obj i (by rw[hfe];simp only[A.refs];exact refsL_mem hy hyi)
      ·cases hc
     ·cases hv
    rename_i hnro
    unfold gCall calleeOf at hv
    split at hv
    ·rename_i g cap nl ids ro r' os0 hc hci
     split at hc
     ·rename_i g' cap' hf
      cases hc
      simp only[hintIds,hci] at hi
      unfold gCall calleeOf
      rw[(hx f (by simp)).ev]
      simp only[hf,hci]
      rw[pickO_loc fun i hi'=>hi i (by simp[hi']),pickOs_loc fun i hi'=>hi i (by simp[hi']),e,Qgg fun x hx'=>hx x (by simp;exact .inr (by simpa using hx'))]
      exact hv
     ·cases hc
    ·cases hv
 ·cases hv
theorem stepG_loc {o:Oper}{h:Hint}{r:List Prop×G}(hb:s'.base=s.base) (hx:∀x∈o.op.operands,Agr s s' x) (hi:∀i∈hintIds h,s'.objs i=s.objs i) (hv:stepG P n o h s=some r):stepG P n o h s'=some r:=by
 unfold stepG at hv ⊢
 split at hv
 ·rename_i d hd
  split at hv
  ·rename_i p g hg
   rw[stepG0_loc hb hx hi hg]
   exact hv
  ·cases hv
 ·exact stepG0_loc hb hx hi hv
end Go.Ab
