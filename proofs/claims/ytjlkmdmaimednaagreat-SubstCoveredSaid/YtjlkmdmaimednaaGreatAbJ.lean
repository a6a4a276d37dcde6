import Derived.Test.YtjlkmdmaimednaaGreatAbP
set_option linter.unusedVariables false
set_option linter.unusedSimpArgs false
namespace Go.Ab
variable {P:Program} {B:Base} {s:St} {a:Act} {w:World} {ρ:Nat→Value}
def dstOk (n:Nat):Option Tmp→Bool
 |some d=>decide (d<n)
 |none=>true
theorem Qdz {n:Nat}{dst:Option Tmp}(h:dstOk n dst=true):∀d,dst=some d→d<n:=by
 intro d hd;subst hd;simpa[dstOk] using h
def vDir (h:Hint)(r:List Prop×A):Option (List Prop×A):=
 match h with
 |.dir b=>match r.2 with | .t (.v (.bool β))=>some (r.1++[β=b],.t (.v (.bool b)))|_=>none
 |.nilv l=>some (r.1,A.nils l r.2)
 |_=>some r
def valueOp (P:Program)(o:Oper)(h:Hint)(s:St):Option (List Prop×A):=
 match o.op with
 |.build t parts=>vBuild P t parts.toList s
 |.lookup t m k ok=>vLookup P t m k ok h s
 |_=>vOp P o h s
def step0 (P:Program)(n:Nat)(o:Oper)(h:Hint)(s:St):Option (List Prop×St):=
 if dstOk n o.dst then
  match o.op with
  |.box _ x=>eBox x o.dst h s
  |.alloc e=>eAlloc P e o.dst h s
  |.store t ad x=>if o.dst.isNone then eStore P t ad x h s else none
  |.buildSlice t len parts=>eBuildSlice P t len parts.toList o.dst h s
  |.makeSlice t l c=>match o.dst with|some d=>eMake P t l c o.dst h d s|none=>none
  |.call { callee := .builtin .append,args:=args,argTypes:=tys }=>match args.toList,tys.toList with
   |[x,y],[t,t2]=>eAppend P t t2 x y o.dst h s
   |_,_=>none
  |.call { callee := .builtin .delete,args:=args,argTypes:=tys }=>match args.toList,tys.toList with
   |[m,k],[t,_]=>eDelete P t m k o.dst h s
   |_,_=>none
  |.makeMap t none=>eMakeMap P t o.dst h s
  |.mapUpdate t m k v=>if o.dst.isNone then eMapUpdate P t m k v h s else none
  |.mapEntry t m k=>eMapEntry P t m k o.dst h s
  |.entryStore _ m x v=>if o.dst.isNone then eEntryStore m x v h s else none
  |.range t x=>eRange P t x o.dst h s
  |.next x false=>eNext x o.dst h s
  |.entry x=>eEntry x o.dst h s
  |.call { callee := .value f,args:=args,.. }=>match roInfo h with
   |some (nl,r)=>eRO P f args.toList o.dst nl r s
   |none=>eCall P f args.toList o.dst h s
  |_=>((valueOp P o h s).bind (vDir h)).map fun r=>(r.1,s.putO o.dst r.2)
 else none
def step (P:Program)(n:Nat)(o:Oper)(h:Hint)(s:St):Option (List Prop×St):=
 match h,o.dst with
 |.fz,some d=>(step0 P n o .fz s).map fun r=>(r.1,r.2.frz d)
 |h,_=>step0 P n o h s
theorem AllP_append:∀{l m:List Prop},AllP (l++m)↔AllP l∧AllP m
 |[],m=>by simp[AllP]
 |[p],[]=>by simp[AllP]
 |[p],q::m=>by simp[AllP]
 |p::q::l,m=>by
  have:=AllP_append (l:=q::l) (m:=m)
  simp only[List.cons_append,AllP] at this ⊢
  rw[this,and_assoc]
theorem vDir_spec {h:Hint}{r:List Prop×A}{p:List Prop}{x:A}(hv:vDir h r=some (p,x)) (hp:AllP p):AllP r.1∧∀ρ C u,relA ρ C r.2 u→relA ρ C x u:=by
 unfold vDir at hv
 split at hv
 ·rename_i b
  split at hv
  ·rename_i β hr
   cases hv
   rw[AllP_append] at hp
   refine⟨hp.1,fun ρ C u hu => ?_⟩
   have:β=b:=hp.2
   rw[hr,this] at hu;exact hu
  ·cases hv
 ·cases hv;exact⟨hp,fun _ _ _ h=>Qeg _ _ _ h⟩
 ·cases hv;exact⟨hp,fun _ _ _ h=>h⟩
theorem valueOp_sound (h:Rel B s a w ρ){o:Oper}{hh:Hint}{p:List Prop}{z:A}(hv:valueOp P o hh s=some (p,z)) (hp:AllP p):
  ∃u,(execOp a.eval o).run P w = .ok (.value u) w∧relA ρ (view B.hid (own ρ s.objs) w) z u:=by
 unfold valueOp at hv
 split at hv
 ·rename_i t parts ho
  have:=Qa4 (vBuild_sound (P:=P) h hv)
  simpa only[execOp,ho,Array.toArray_toList] using this
 ·rename_i t m k ok ho
  obtain⟨u,h1,h2⟩:=vLookup_sound h hv hp
  exact⟨u,by simp only[execOp,ho];simp[h1],h2⟩
 ·exact vOp_sound h hv hp
def FR (ro:Option Nat):Fence:={ Fence.wide with round:=ro }
def mark (D:Nat):Deferred:={ target := .collected D,args := #[] }
theorem FR_fn {ro:Option Nat}{f:FuncId}:(FR ro).fn f:=trivial
theorem FR_room {ro:Option Nat}(k:Nat):(FR ro).room k:=fun _ h=>by simp[FR,Fence.wide] at h
theorem callsIn_FR {ro:Option Nat}{n:Nat}{f:FuncId}{args:Array Value}{w:World}{R:Ending→World→Prop}(h:Calls P f args w R):CallsIn (FR ro) n P f args w R:=
 (callsIn_wide (n:=n)).2 h
theorem wpIn_val {ro:Option Nat}{o:Oper}{K:Act→World→Prop}{Q:Exit→Act→World→Prop}{u:Value}{w':World}(hnd:∀c,o.op ≠ .defer c) (h1:(execOp a.eval o).run P w = .ok (.value u) w') (hK:K (a.put o.dst u) w'):o.wpIn (FR ro) 0 P a w K Q:=by
 unfold Oper.wpIn
 refine⟨fun _ _=>FR_fn,?_⟩
 rw[Oper.semAt_eq _ _ _ hnd,h1];exact hK
theorem wpIn_skp {ro:Option Nat}{o:Oper}{K:Act→World→Prop}{Q:Exit→Act→World→Prop}{w':World}(hnd:∀c,o.op ≠ .defer c) (h1:(execOp a.eval o).run P w = .ok .skip w') (hK:K (a.put o.dst undef) w'):o.wpIn (FR ro) 0 P a w K Q:=by
 unfold Oper.wpIn
 refine⟨fun _ _=>FR_fn,?_⟩
 rw[Oper.semAt_eq _ _ _ hnd,h1];exact hK
theorem wpIn_ent {ro:Option Nat}{o:Oper}{K:Act→World→Prop}{Q:Exit→Act→World→Prop}{g:FuncId}{us:Array Value}{w':World}{R:Ending→World→Prop}(hnd:∀c,o.op ≠ .defer c) (h1:(execOp a.eval o).run P w = .ok (.enter g us) w')
  (h2:Calls P g us w' R) (hK:∀e w'',R e w''→match e with | .returned v=>K (a.put o.dst v) w'' | .panicked chain=>Q (.panic chain) a w'' | .outgrown=>LetsOut Q):o.wpIn (FR ro) 0 P a w K Q:=by
 unfold Oper.wpIn
 refine⟨fun _ _=>FR_fn,?_⟩
 rw[Oper.semAt_eq _ _ _ hnd,h1]
 refine⟨fun h=>by simp[FR,Fence.wide] at h,(callsIn_FR h2).mono ?_⟩
 intro e w'' hR
 have:=hK e w'' hR
 cases e<;>exact this
theorem Qc3 {ro:Option Nat}{ops:Array Oper}{Q:Exit→Act→World→Prop}{i:Nat}{rest:List Nat}
  (h:match ops[i]? with
   |none=>wpOpsIn (FR ro) 0 P ops Q rest a w
   |some o=>if Region.wanted o (yielded ops a.tmps) then o.wpIn (FR ro) 0 P a w (wpOpsIn (FR ro) 0 P ops Q rest) Q else wpOpsIn (FR ro) 0 P ops Q rest (a.put o.dst undef) w):
  wpOpsIn (FR ro) 0 P ops Q (i::rest) a w:=by
 simp only[wpOpsIn]
 cases ho:ops[i]? with
 |none=>rw[ho] at h;exact h
 |some o=>
  rw[ho] at h
  simp only at h ⊢
  split
  ·rename_i hw;rw[if_pos hw] at h;exact h
  ·rename_i hw;rw[if_neg hw] at h;exact⟨fun _ _=>FR_fn,h⟩
theorem wpOpIn_of {ro:Option Nat}{ops:Array Oper}{Q:Exit→Act→World→Prop}{i:Nat}{K:Act→World→Prop}
  (h:match ops[i]? with
   |none=>K a w
   |some o=>if Region.wanted o (yielded ops a.tmps) then o.wpIn (FR ro) 0 P a w K Q else K (a.put o.dst undef) w):
  wpOpIn (FR ro) 0 P ops Q i K a w:=by
 unfold wpOpIn
 cases ho:ops[i]? with
 |none=>rw[ho] at h;exact h
 |some o=>
  rw[ho] at h
  simp only at h ⊢
  split
  ·rename_i hw;rw[if_pos hw] at h;exact h
  ·rename_i hw;rw[if_neg hw] at h;exact⟨fun _ _=>FR_fn,h⟩
theorem step0_nd {n:Nat}{o:Oper}{hh:Hint}{r:List Prop×St}(hv:step0 P n o hh s=some r):∀c,o.op ≠ .defer c:=by
 intro c hc
 unfold step0 at hv
 split at hv
 ·simp only[hc] at hv
  simp[valueOp,vOp,hc] at hv
 ·cases hv
theorem step0_sound (h:Rel B s a w ρ){o:Oper}{hh:Hint}{p:List Prop}{s':St}(hv:step0 P B.n o hh s=some (p,s')) (hp:AllP p){K:Act→World→Prop}{Q:Exit→Act→World→Prop}
  (hK:∀a' w' ρ',Rel B s' a' w' ρ'→K a' w'):o.wpIn (FR B.ro) 0 P a w K Q:=by
 have hnd:=step0_nd hv
 unfold step0 at hv
 split at hv
 ·rename_i hdst
  have hd:=Qdz hdst
  have fin:EOk P B s' a w o→o.wpIn (FR B.ro) 0 P a w K Q:=by
   rintro ⟨u,w',ρ',h1|⟨h1,rfl⟩,h2⟩
   ·exact wpIn_val hnd h1 (hK _ _ _ h2)
   ·exact wpIn_skp hnd h1 (hK _ _ _ h2)
  split at hv
  ·rename_i e x ho;exact fin (eBox_sound h ho hv hd)
  ·rename_i e ho;exact fin (eAlloc_sound h ho hv hd)
  ·rename_i t ad x ho
   split at hv
   ·rename_i hn;exact fin (eStore_sound h ho (by simpa using hn) hv hp)
   ·cases hv
  ·rename_i t len parts ho;exact fin (Qfg h ho hv hd)
  ·rename_i t l c ho
   split at hv
   ·exact fin (eMake_sound h ho hv hp hd)
   ·cases hv
  ·rename_i args tys ho
   split at hv
   ·rename_i x y t t2 h1 h2
    exact fin (eAppend_sound h ho (by rw[←Array.toList_inj];simpa using h1) (by rw[←Array.toList_inj];simpa using h2) hv hp hd)
   ·cases hv
  ·rename_i args tys ho
   split at hv
   ·rename_i m k t t2 h1 h2
    obtain rfl:args = #[m,k]:=by rw[←Array.toList_inj];simpa using h1
    obtain rfl:tys = #[t,t2]:=by rw[←Array.toList_inj];simpa using h2
    exact fin (eDelete_sound h ho hv hp hd)
   ·cases hv
  ·rename_i t ho;exact fin (eMakeMap_sound h ho hv hd)
  ·rename_i t m k v ho
   split at hv
   ·rename_i hn
    obtain⟨w',h1,h2⟩:=Qf8 h hv hp
    have hn':o.dst=none:=by simpa using hn
    refine fin ⟨undef,w',ρ,.inr ⟨by simp only[execOp,ho];simp[h1],rfl⟩,?_⟩
    rw[hn'];exact h2
   ·cases hv
  ·rename_i t m k ho;exact fin (eMapEntry_sound h ho hv hp hd)
  ·rename_i t m x v ho
   split at hv
   ·rename_i hn
    obtain⟨w',h1,h2⟩:=Qft (P:=P) (t:=t) h hv hp
    have hn':o.dst=none:=by simpa using hn
    refine fin ⟨undef,w',ρ,.inr ⟨by simp only[execOp,ho];simp[h1],rfl⟩,?_⟩
    rw[hn'];exact h2
   ·cases hv
  ·rename_i t x ho;exact fin (eRange_sound h ho hv hd)
  ·rename_i x ho;exact fin (eNext_sound h ho hv hp hd)
  ·rename_i x ho;exact fin (eEntry_sound h ho hv hp hd)
  ·rename_i f args tys ho
   have hcall:∃g us,(execOp a.eval o).run P w = .ok (.enter g us) w∧Calls P g us w (fun e w'=>∃u ρ',e = .returned u∧Rel B s' (a.put o.dst u) w' ρ'):=by
    split at hv
    ·exact eRO_sound h ho hv hp hd
    ·exact eCall_sound h ho hv hp hd
   obtain⟨g,us,h1,h2⟩:=hcall
   refine wpIn_ent hnd h1 h2 ?_
   rintro e w' ⟨u,ρ',rfl,h3⟩
   exact hK _ _ _ h3
  ·simp only[Option.map_eq_some_iff,Option.bind_eq_some_iff,Prod.mk.injEq] at hv
   obtain⟨r2,⟨r,h1,h2⟩,rfl,rfl⟩:=hv
   obtain⟨h3,h4⟩:=vDir_spec (r:=r) (p:=r2.1) (x:=r2.2) h2 hp
   obtain⟨u,h5,h6⟩:=valueOp_sound h (p:=r.1) (z:=r.2) h1 h3
   exact wpIn_val hnd h5 (hK _ _ _ (h.putO hd (h4 _ _ _ h6)))
 ·cases hv
theorem step_sound (h:Rel B s a w ρ){o:Oper}{hh:Hint}{p:List Prop}{s':St}(hv:step P B.n o hh s=some (p,s')) (hp:AllP p){K:Act→World→Prop}{Q:Exit→Act→World→Prop}
  (hK:∀a' w' ρ',Rel B s' a' w' ρ'→K a' w'):o.wpIn (FR B.ro) 0 P a w K Q:=by
 unfold step at hv
 split at hv
 ·rename_i d hd
  simp only[Option.map_eq_some_iff] at hv
  obtain⟨r,hr,hv⟩:=hv
  cases hv
  exact step0_sound h (p:=r.1) (s':=r.2) hr hp fun a' w' ρ' h'=>hK a' w' ρ' (h'.frz d)
 ·exact step0_sound h hv hp hK
def hintOf (hs:List (Nat×Hint))(i:Nat):Hint:=(hs.lookup i).getD .no
def guardA (s:St)(ops:List Oper)(o:Oper):Option Bool:=
 match o.guard with
 |none=>some true
 |some (j,want)=>match (ops[j]?).bind (·.dst) with
  |some d=>match s.slots d with
   |.t (.v (.bool b))=>some (b==want)
   |.tup []=>some false
   |_=>none
  |none=>none
def opAt (P:Program)(n:Nat)(ops:List Oper)(hs:List (Nat×Hint))(i:Nat)(s:St):Option (List Prop×St):=
 match ops[i]? with
 |none=>some ([],s)
 |some o=>match guardA s ops o with
  |some true=>step P n o (hintOf hs i) s
  |some false=>if dstOk n o.dst then some ([],s.putO o.dst (.tup [])) else none
  |none=>none
theorem Qdc (h:Rel B s a w ρ){ops:Array Oper}{o:Oper}{b:Bool}(hg:guardA s ops.toList o=some b):Region.wanted o (yielded ops a.tmps)=b:=by
 unfold guardA at hg
 unfold Region.wanted
 split at hg
 ·rename_i hgu;cases hg;simp[hgu]
 ·rename_i j want hgu
  simp only[hgu]
  split at hg
  ·rename_i d hd
   have hs:=h.slots d
   have hd':(ops[j]?).bind (·.dst)=some d:=by simpa using hd
   unfold yielded
   rw[hd']
   simp only[Option.bind_some]
   rw[Array.getD_eq_getD_getElem?] at hs
   split at hg
   ·rename_i c he
    cases hg
    rw[he] at hs
    simp only[relA,rep] at hs
    cases hx:a.tmps[d]? with
    |none=>rw[hx] at hs;simp[undef] at hs
    |some u=>rw[hx] at hs;simp at hs;subst hs;cases c<;>cases want<;>rfl
   ·rename_i he
    cases hg
    rw[he] at hs
    simp only[relA,relAs] at hs
    obtain⟨cs,h1,h2⟩:=hs
    cases hx:a.tmps[d]? with
    |none=>rfl
    |some u=>rw[hx] at h1;simp at h1;subst h1;rfl
   ·cases hg
  ·cases hg
theorem relA_undef {C:View}:relA ρ C (.tup []) undef:=by
 simp only[relA];exact⟨#[],rfl,by simp[relAs]⟩
theorem Qd0 (h:Rel B s a w ρ){ops:Array Oper}{hs:List (Nat×Hint)}{i:Nat}{p:List Prop}{s':St}(hv:opAt P B.n ops.toList hs i s=some (p,s')) (hp:AllP p){K:Act→World→Prop}{Q:Exit→Act→World→Prop}
  (hK:∀a' w' ρ',Rel B s' a' w' ρ'→K a' w'):
  match ops[i]? with
  |none=>K a w
  |some o=>if Region.wanted o (yielded ops a.tmps) then o.wpIn (FR B.ro) 0 P a w K Q else K (a.put o.dst undef) w:=by
 unfold opAt at hv
 have e:ops.toList[i]? = ops[i]? :=by simp
 rw[e] at hv
 cases ho:ops[i]? with
 |none=>rw[ho] at hv;cases hv;exact hK _ _ _ h
 |some o=>
  rw[ho] at hv
  simp only at hv ⊢
  split at hv
  ·rename_i hg
   rw[if_pos (Qdc h hg)]
   exact step_sound h hv hp hK
  ·rename_i hg
   split at hv
   ·rename_i hd
    cases hv
    rw[if_neg (by rw[Qdc h hg];exact Bool.false_ne_true)]
    exact hK _ _ _ (h.putO (Qdz hd) relA_undef)
   ·cases hv
  ·cases hv
structure Ext (B B':Base):Prop where
 n:B'.n=B.n
 bs:B'.bs=B.bs
 ro:B'.ro=B.ro
 hid:B'.hid=B.hid
 ρ0:∀i∈B.bs,B'.ρ0 i=B.ρ0 i
 frm:Frm B.w0 B.own0 B'.own0 B'.w0
 ds:∃Ds:List Nat,B'.ds=Ds.map mark++B.ds∧Ds.Nodup∧∀D∈Ds,B.w0.heap.size≤D∧¬ B'.own0 D∧B'.w0.heap[D]? = some (.deferred (some []))
theorem Ext.refl (B:Base):Ext B B:=⟨rfl,rfl,rfl,rfl,fun _ _=>rfl,Frm.refl _ _,[],rfl,List.nodup_nil,fun _ h=>by cases h⟩
theorem Frm.trans {w0 w1 w2:World}{o0 o1 o2:Nat→Prop}(h:Frm w0 o0 o1 w1) (k:Frm w1 o1 o2 w2):Frm w0 o0 o2 w2:=
 ⟨k.os.trans h.os,k.tape.trans h.tape,k.output.trans h.output,Nat.le_trans h.size k.size,
  fun b hb ho=>(k.block b (Nat.lt_of_lt_of_le hb h.size) fun h1=>by rcases h.new b h1 with h2|h2;exact ho h2;omega).trans (h.block b hb ho),
  fun b hb=>by
   rcases k.new b hb with h1|h1
   ·exact h.new b h1
   ·exact .inr (Nat.le_trans h.size h1)⟩
theorem Ext.trans {B B' B'':Base}(h:Ext B B') (k:Ext B' B''):Ext B B'':=by
 obtain⟨D1,h1,h2,h3⟩:=h.ds
 obtain⟨D2,k1,k2,k3⟩:=k.ds
 have lt1:∀D∈D1,D<B'.w0.heap.size:=fun D hD=>(Array.getElem?_eq_some_iff.1 (h3 D hD).2.2).1
 refine⟨k.n.trans h.n,k.bs.trans h.bs,k.ro.trans h.ro,k.hid.trans h.hid,fun i hi=>(k.ρ0 i (by rw[h.bs];exact hi)).trans (h.ρ0 i hi),h.frm.trans k.frm,D2++D1,?_,?_,?_⟩
 ·rw[k1,h1,List.map_append,List.append_assoc]
 ·rw[List.nodup_append]
  refine⟨k2,h2,fun x hx y hy e => ?_⟩
  subst e
  have:=lt1 x hy
  have:=(k3 x hx).1
  omega
 ·intro D hD
  rcases List.mem_append.1 hD with hD|hD
  ·exact⟨Nat.le_trans h.frm.size (k3 D hD).1,(k3 D hD).2⟩
  ·obtain⟨a1,a2,a3⟩:=h3 D hD
   refine⟨a1,fun h1 => ?_,(k.frm.block D (lt1 D hD) a2).trans a3⟩
   rcases k.frm.new D h1 with h1|h1
   ·exact a2 h1
   ·have:=lt1 D hD;omega
def Po (B:Base)(K:Exit→St→Prop)(e:Exit)(a:Act)(w:World):Prop:=∃B' s' ρ',K e s'∧Ext B B'∧Rel B' s' a w ρ'
theorem Po.ext {B B':Base}(hx:Ext B B'){K:Exit→St→Prop}{e:Exit}{a:Act}{w:World}:Po B' K e a w→Po B K e a w
 |⟨B2,s',ρ',h1,h2,h3⟩=>⟨B2,s',ρ',h1,hx.trans h2,h3⟩
def W (P:Program)(n:Nat)(c:Code)(K:Exit→St→Prop)(s:St):Prop:=
 ∀(B:Base),B.n=n→∀a w ρ,Rel B s a w ρ→c.wpIn (FR B.ro) 0 P (Po B K) a w
def W.then (K1:St→Prop)(K:Exit→St→Prop):Exit→St→Prop
 |.normal,s=>K1 s
 |e,s=>K e s
variable {n:Nat} {K:Exit→St→Prop}
theorem W_mono {c:Code}{K':Exit→St→Prop}(h:W P n c K s) (hK:∀e s,K e s→K' e s):W P n c K' s:=
 fun B hB a w ρ hr=>wpIn_mono (h B hB a w ρ hr) fun _ _ _ ⟨B',s',ρ',h1,h2⟩=>⟨B',s',ρ',hK _ _ h1,h2⟩
theorem W_seq {x y:Code}(h:W P n x (W.then (W P n y K) K) s):W P n (.seq x y) K s:=by
 intro B hB a w ρ hr
 refine wpIn_seq (wpIn_mono (h B hB a w ρ hr) ?_)
 rintro e a' w' ⟨B',s',ρ',h1,hx,h2⟩
 cases e with
 |normal=>
  have:=h1 B' (hx.n.trans hB) a' w' ρ' h2
  rw[hx.ro] at this
  exact wpIn_mono this fun _ _ _=>Po.ext hx
 |exit id=>exact⟨B',s',ρ',h1,hx,h2⟩
 |goto l=>exact⟨B',s',ρ',h1,hx,h2⟩
 |ret=>exact⟨B',s',ρ',h1,hx,h2⟩
 |panic ch=>exact⟨B',s',ρ',h1,hx,h2⟩
 |outgrown=>exact⟨B',s',ρ',h1,hx,h2⟩
theorem W_skip (h:K .normal s):W P n .skip K s:=fun B _ _ _ ρ hr=>wpIn_skip ⟨B,s,ρ,h,Ext.refl B,hr⟩
theorem W_exit {id:Nat}(h:K (.exit id) s):W P n (.exit id) K s:=fun B _ _ _ ρ hr=>wpIn_exit ⟨B,s,ρ,h,Ext.refl B,hr⟩
theorem W_ret (h:K .ret s):W P n .ret K s:=fun B _ _ _ ρ hr=>wpIn_ret ⟨B,s,ρ,h,Ext.refl B,hr⟩
theorem W_cond {c:Operand}{x y:Code}{β t:Bool}(hc:ev s c = .t (.v (.bool β))) (hb:β=t) (h:W P n (if t then x else y) K s):W P n (.cond c x y) K s:=by
 intro B hB a w ρ hr
 have:=hr.opd c
 rw[hc] at this
 simp only[relA,rep] at this
 exact wpIn_cond (t:=t) (by rw[this,hb]) (h B hB a w ρ hr)
def W.inBlock (id:Nat)(K:Exit→St→Prop):Exit→St→Prop
 |.exit id',s=>if id'=id then K .normal s else K (.exit id') s
 |e,s=>K e s
theorem W_block {id:Nat}{c:Code}(h:W P n c (W.inBlock id K) s):W P n (.block id c) K s:=by
 intro B hB a w ρ hr
 refine wpIn_block (wpIn_mono (h B hB a w ρ hr) ?_)
 rintro e a' w' ⟨B',s',ρ',h1,h2⟩
 cases e with
 |exit id'=>
  simp only[W.inBlock,Exit.inBlock] at h1 ⊢
  split at h1
  ·rename_i h3;rw[if_pos h3];exact⟨B',s',ρ',h1,h2⟩
  ·rename_i h3;rw[if_neg h3];exact⟨B',s',ρ',h1,h2⟩
 |normal=>exact⟨B',s',ρ',h1,h2⟩
 |goto l=>exact⟨B',s',ρ',h1,h2⟩
 |ret=>exact⟨B',s',ρ',h1,h2⟩
 |panic ch=>exact⟨B',s',ρ',h1,h2⟩
 |outgrown=>exact⟨B',s',ρ',h1,h2⟩
structure LW (P:Program) (n:Nat) (c:Code) (K:Exit→St→Prop) (s:St):Prop where
 out:∀(B:Base),B.n=n→∀a w ρ,Rel B s a w ρ→∀(b:Frame)(k:List Item)(cs:List Frame),b.roundOf=B.ro→
  ∃e a' w',Po B K e a' w'∧ArrivesIn (Machine.fenced P (FR B.ro)) P (lone (b.atR a (.code c :: .inLoop c::k)) cs w) b k cs e a' w'
theorem W_loop {c:Code}(h:LW P n c K s):W P n (.loop c) K s:=by
 intro B hB a w ρ hr b k cs hro hb hrm
 obtain⟨e,a',w',hq,harr⟩:=h.out B hB a w ρ hr b k cs hro
 exact⟨e,a',w',hq,.of_steps (.one (fenced_calm hb hrm rfl) stepR_loop) harr⟩
theorem LW_round {c:Code}(h:W P n c (W.then (LW P n c K) K) s):LW P n c K s:=by
 refine⟨?_⟩
 intro B hB a w ρ hr b k cs hro
 have hb:(FR B.ro).fn b.fn:=FR_fn
 have hrm:(FR B.ro).room (cs.length+1+0):=FR_room _
 obtain⟨e,a1,w1,⟨B1,s1,ρ1,hq,hx,hr1⟩,harr⟩:=h B hB a w ρ hr b (.inLoop c::k) cs hro hb hrm
 cases e with
 |normal=>
  have hq2:=hq.out B1 (hx.n.trans hB) a1 w1 ρ1 hr1 b k cs (by rw[hx.ro];exact hro)
  rw[hx.ro] at hq2
  obtain⟨e2,a2,w2,hq2,harr2⟩:=hq2
  exact⟨e2,a2,w2,Po.ext hx hq2,.of_steps (StepsIn.trans harr (.one (fenced_calm hb hrm rfl) stepR_inLoop)) harr2⟩
 |exit id=>exact⟨_,a1,w1,⟨B1,s1,ρ1,hq,hx,hr1⟩,.pass (x := .inLoop c) rfl (fun _ _ => .inl (by simp)) harr⟩
 |goto l=>exact⟨_,a1,w1,⟨B1,s1,ρ1,hq,hx,hr1⟩,.pass (x := .inLoop c) rfl (fun _ _ => .inl (by simp)) harr⟩
 |ret=>exact⟨_,a1,w1,⟨B1,s1,ρ1,hq,hx,hr1⟩,.pass (x := .inLoop c) rfl (fun _ _ => .inl (by simp)) harr⟩
 |panic ch=>exact⟨_,a1,w1,⟨B1,s1,ρ1,hq,hx,hr1⟩,.pass (x := .inLoop c) rfl (fun _ _ => .inl (by simp)) harr⟩
 |outgrown=>exact⟨_,a1,w1,⟨B1,s1,ρ1,hq,hx,hr1⟩,.pass (x := .inLoop c) rfl (fun _ _ => .inl (by simp)) harr⟩
end Go.Ab
