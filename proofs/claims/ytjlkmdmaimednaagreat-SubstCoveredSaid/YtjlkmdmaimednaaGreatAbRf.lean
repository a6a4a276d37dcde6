import Derived.Test.YtjlkmdmaimednaaGreatAbT
set_option linter.unusedVariables false
set_option linter.unusedSimpArgs false
namespace Go.Ab
open Go.RowKit
variable {P:Program} {B:Base} {s:St} {a:Act} {w:World} {ρ:Nat→Value} {n:Nat}
theorem view_given (hid ow:Nat→Prop) (w:World):view (fun b=>hid b∨ow b) (fun _=>False) w=view hid ow w:=by
 funext b o
 have hiff:(False∨(hid b∨ow b))↔(ow b∨hid b):=by
  constructor
  ·rintro (h|h|h)
   ·exact h.elim
   ·exact .inr h
   ·exact .inl h
  ·rintro (h|h)
   ·exact .inr (.inr h)
   ·exact .inr (.inl h)
 unfold view
 by_cases hq:ow b∨hid b
 ·rw[if_pos (hiff.2 hq),if_pos hq]
 ·rw[if_neg (fun hq'=>hq (hiff.1 hq')),if_neg hq]
def BackC {α:Type}(P:Program)(gf:FuncId)(m:Nat)(enc:α→List T)(dec:α→A):Prop:=
 Enter P gf∧∀(l:Nat)(v:Value)(xs:List α)(J:Nat→(Nat→Prop)→World→Prop) (Jx:World→Prop),
  (∀k hid W,J k hid W→(∀b,hid b→b<W.heap.size)∧rep (view hid (fun _=>False) W) (.pt [.sl m (xs.map enc)]) v)→
  (∀k hid W W',J k hid W→Frm W (fun _=>False) (fun _=>False) W'→J k hid W')→
  (∀k hid W x u,xs[k]? = some x→J (k+1) hid W→relA (fun _=>undef) (view hid (fun _=>False) W) (dec x) u→
   YieldAt (FR none) 0 P l #[.int .i64 (k:Int),u] W (fun e W'=>(e = .returned (.bool true)∧∃hid',J k hid' W')∨(e = .returned (.bool false)∧Jx W')))→
  ∀hid W,J xs.length hid W→Calls P gf #[.func (.yield l) #[] #[],v] W (fun e W'=>(∃u,e = .returned u)∧((∃hid',J 0 hid' W')∨Jx W'))
def BackwardR {α:Type}(P:Program)(f clo m:Nat)(enc:α→List T)(a:List α):Prop:=
 Con P f [.t (.sl m (a.map enc))] [] (fun r_ o_=>r_ = .fn clo [.t (.pt [.sl m (a.map enc)])]∧o_=[])
def restore (s s':St)(ids:List Nat):St:=⟨fun i=>if (s.slots i).only ids then s.slots i else .dead,s'.objs,s.base⟩
def enterR (s:St)(ids:List Nat)(p0 p1:Nat)(k:Nat)(x:A):St:={ ((s.put p0 (.t (.v (.int .i64 (k:Int))))).put p1 x) with base:=9999::ids }
def roundK (K:Exit→St→Prop)(N:St→Prop)(s:St)(ids ks os:List Nat):Exit→St→Prop
 |.normal,s'=>N (norm ks os (restore s s' ids))
 |.exit id,s'=>K (.exit id) (restore s s' ids)
 |.ret,s'=>K .ret (restore s s' ids)
 |_,_=>False
def RWp {α:Type}(P:Program)(n p0 p1:Nat)(assign body:Code)(ids ks os:List Nat)(K:Exit→St→Prop)(dec:α→A)(l:List α):Nat→St→Prop
 |0,s=>K .normal s
 |k+1,s=>∃x,l[k]? = some x∧W P n assign (fun e s1=>e = .normal∧W P n body (roundK K (RWp P n p0 p1 assign body ids ks os K dec l k) s ids ks os) s1) (enterR s ids p0 p1 k (dec x))
theorem Rel.based (h:Rel B s a w ρ) (bs:List Nat) (ro:Option Nat) (ds:List Deferred) (hro:ro≠none→9999∈bs):
  Rel { hid:=B.hid,w0:=w,own0:=own ρ s.objs,ρ0:=ρ,n:=B.n,bs:=bs,ro:=ro,ds:=ds,hro:=hro } { s with base:=bs } { a with defers:=ds } w ρ:=
 ⟨h.heap,Frm.refl _ _,h.slots,fun _ _=>rfl,h.n,rfl,rfl⟩
set_option maxHeartbeats 1000000 in
theorem W_back {α:Type}{gf:FuncId}{m:Nat}{enc:α→List T}{dec:α→A}(hback:BackC P gf m enc dec){g:Operand}{p0 p1:Nat}{assign body:Code}{ids ks os:List Nat}{l:List α}{K:Exit→St→Prop}
  (hg:ev s g = .fn gf [.t (.pt [.sl m (l.map enc)])]) (hb:s.base.all ids.contains=true) (h9:s.base.contains 9999=false) (hp0:p0<n) (hp1:p1<n)
  (hdec:∀x∈l,(dec x).only []=true) (h:RWp P n p0 p1 assign body ids ks os K dec l l.length s):W P n (.rangeFunc g #[p0,p1] assign body) K s:=by
 intro B hB a w ρ hr
 have hro:B.ro=none:=by
  cases hq:B.ro with
  |none=>rfl
  |some l=>
   have:=B.hro (by simp[hq])
   rw[←hr.base] at this
   have h9':¬ 9999∈s.base:=by simpa using h9
   exact absurd this h9'
 rw[hro]
 have hga:=hr.opd g
 rw[hg] at hga
 simp only[relA,relAs] at hga
 obtain⟨cs,hga1,v,us',hcs,hv,rfl⟩:=hga
 have hcs':cs = #[v]:=by rw[←Array.toList_inj];simpa using hcs
 subst hcs'
 refine wpIn_rangeFunc ?_
 intro fn hfn
 obtain⟨rec,hrec⟩:∃rec:LoopState→Option Code→Loop,rec=fun st pe=>{ state:=st,pending:=pe,fn,tmps:=a.tmps,params := #[p0,p1],assign,body,defers:=w.heap.size }:=⟨_,rfl⟩
 obtain⟨W1,hW1⟩:∃W1,(w.alloc (.deferred (some []))).alloc (.loop (rec .ready none))=W1:=⟨_,rfl⟩
 have hL1:W1.heap[w.heap.size+1]? = some (.loop (rec .ready none)):=by
  rw[←hW1];have:=World.alloc_heap_new (w.alloc (.deferred (some []))) (.loop (rec .ready none));rwa [World.size_alloc] at this
 have hK1:W1.heap[w.heap.size]? = some (.deferred (some [])):=by
  rw[←hW1];exact(Below.heap_alloc _ _ _ (by simp)).trans (World.alloc_heap_new w _)
 have hszB:B.w0.heap.size≤w.heap.size:=hr.frm.size
 refine⟨w.heap.size+1,[mark w.heap.size],W1,{ target := .fn (.func gf) #[v],args := #[.func (.yield (w.heap.size+1)) #[] #[]] },W1,gf,
  #[.func (.yield (w.heap.size+1)) #[] #[],v],W1,?_,?_,?_,?_,fun hh=>by simp[FR,Fence.wide] at hh,?_⟩
 ·rw[←hW1,hrec];exact run_enterLoop_outer _ _ _ _ _
 ·simp only[resolve,hga1]
  simp[go_sem]
 ·intro f' _;exact FR_fn
 ·have:=hback.1 #[.func (.yield (w.heap.size+1)) #[] #[],v] W1
  simp[invoke,go_sem,this]
 ·have dlt:∀{W:World} {b:Nat} {o:Obj},W.heap[b]? = some o→b<W.heap.size:=fun h=>(Array.getElem?_eq_some_iff.1 h).1
  refine(callsIn_FR (hback.2 (w.heap.size+1) v l
   (fun k hid W=>∃sk ρk,hid=(fun b=>B.hid b∨own ρk sk.objs b)∧RWp P n p0 p1 assign body ids ks os K dec l k sk∧sk.base=s.base∧Rel B sk a W ρk∧rep (view B.hid (own ρk sk.objs) W) (.pt [.sl m (l.map enc)]) v∧
    W.heap[w.heap.size+1]? = some (.loop (rec .ready none))∧W.heap[w.heap.size]? = some (.deferred (some []))∧¬ own ρk sk.objs (w.heap.size+1)∧¬ own ρk sk.objs w.heap.size)
   (fun W=>∃c e s' ρ',((c = .ret∧e = .ret)∨(∃id,c = .exit id∧e = .exit id))∧K e s'∧Rel B s' a W ρ'∧
    W.heap[w.heap.size+1]? = some (.loop (rec .done (some c)))∧W.heap[w.heap.size]? = some (.deferred (some []))∧¬ own ρ' s'.objs (w.heap.size+1)∧¬ own ρ' s'.objs w.heap.size)
   ?data ?grow ?round (fun b=>B.hid b∨own ρ s.objs b) W1 ⟨s,ρ,rfl,h,rfl,?rel0,?rep0,hL1,hK1,?o1,?o2⟩)).mono ?behind
  case data=>
   rintro k hid W ⟨sk,ρk,rfl,_,_,hrk,hrep,_⟩
   refine⟨?_,by rw[view_given];exact hrep⟩
   rintro b (hbb|hbb)
   ·exact hrk.heap.hlt b hbb
   ·exact hrk.own_lt hbb
  case grow=>
   rintro k hid W W' ⟨sk,ρk,rfl,h1,h2,hrk,hrep,hl,hd,o1,o2⟩ hf
   have hbs:Beside (own ρk sk.objs) W W':=⟨hf.size,fun b hb => .inl (hf.block b hb (fun h=>h))⟩
   refine⟨sk,ρk,rfl,h1,h2,⟨hrk.heap.beside hbs,⟨hf.os.trans hrk.frm.os,hf.tape.trans hrk.frm.tape,hf.output.trans hrk.frm.output,Nat.le_trans hrk.frm.size hf.size,fun b hb ho=>(hf.block b (Nat.lt_of_lt_of_le hb hrk.frm.size) (fun h=>h)).trans (hrk.frm.block b hb ho),hrk.frm.new⟩,
    fun i=>Qav hbs.view _ _ (hrk.slots i),hrk.keep,hrk.n,hrk.defers,hrk.base⟩,Qcf hbs.view _ _ hrep,(hf.block _ (dlt hl) (fun h=>h)).trans hl,(hf.block _ (dlt hd) (fun h=>h)).trans hd,o1,o2⟩
  case rel0=>
   have hb0:Beside (own ρ s.objs) w W1:=by
    rw[←hW1]
    refine⟨by simp;omega,fun b hb => .inl ?_⟩
    exact(Below.heap_alloc _ _ b (by simp;omega)).trans (Below.heap_alloc w _ b hb)
   refine⟨hr.heap.beside hb0,?_,fun i=>Qav hb0.view _ _ (hr.slots i),hr.keep,hr.n,hr.defers,hr.base⟩
   rw[←hW1];exact(hr.frm.alloc _).alloc _
  case rep0=>
   have hb0:Beside (own ρ s.objs) w W1:=by
    rw[←hW1]
    refine⟨by simp;omega,fun b hb => .inl ?_⟩
    exact(Below.heap_alloc _ _ b (by simp;omega)).trans (Below.heap_alloc w _ b hb)
   exact Qcf hb0.view _ _ hv
  case o1=>exact fun h=>by have:=hr.own_lt h;omega
  case o2=>exact fun h=>by have:=hr.own_lt h;omega
  case round=>
   rintro k hid W x u hx ⟨sk,ρk,rfl,hRW,hbase,hrk,hrep,hl,hd,o1,o2⟩ hxu
   obtain⟨x',hx',hW⟩:=hRW
   rw[hx] at hx';cases hx'
   rw[view_given] at hxu
   have hxu':=Qeo (ρ:=fun _=>undef) (σ:=ρk) (l:=[]) (fun _ h=>by cases h) (dec x) u (hdec x (List.mem_of_getElem? hx)) hxu
   have hy:=run_yield (P:=P) (args := #[.int .i64 (k:Int),u]) hl (by rw[hrec];rfl)
   rw[hrec] at hy
   have hn:a.tmps.size=n:=hrk.n.trans hB
   refine⟨fn,_,assign,body,hy,roundIn_of_wpIn hfn ?_⟩
   have e1:=(hrk.put (d:=p0) (x := .t (.v (.int .i64 (k:Int)))) (u := .int .i64 (k:Int)) (by omega) (by simp only[relA,rep])).put (d:=p1) (x:=dec x) (u:=u) (by omega) hxu'
   obtain⟨Br,hBr⟩:∃Br:Base,Br={ hid:=B.hid,w0:=W,own0:=own ρk sk.objs,ρ0:=ρk,n:=B.n,bs:=9999::ids,ro:=some (w.heap.size+1),ds:=[],hro:=fun _=>by simp }:=⟨_,rfl⟩
   have e2:Rel Br (enterR sk ids p0 p1 k (dec x)) { ((a.put (some p0) (.int .i64 (k:Int))).put (some p1) u) with defers:=[] } W ρk:=by
    rw[hBr];exact e1.based (9999::ids) (some (w.heap.size+1)) [] (fun _=>by simp)
   have hassign:=hW Br (by rw[hBr];exact hB) _ _ _ e2
   have htm:Array.foldl (fun t (x:Tmp×Value)=>t.setIfInBounds x.1 x.2) a.tmps (#[p0,p1].zip #[Value.int .i64 (k:Int),u])=(a.tmps.setIfInBounds p0 (.int .i64 (k:Int))).setIfInBounds p1 u:=by simp
   have hact:({ tmps:=Array.foldl (fun t (x:Tmp×Value)=>t.setIfInBounds x.1 x.2) a.tmps (#[p0,p1].zip #[Value.int .i64 (k:Int),u]),defers:=[] }:Act)={ ((a.put (some p0) (.int .i64 (k:Int))).put (some p1) u) with defers:=[] }:=by
    rw[htm];rfl
   rw[show Br.ro=some (w.heap.size+1) by rw[hBr]] at hassign
   have hgoal:=wpIn_mono (Q':=Exit.then (fun a₁ w₁=>∃w₂,(Instr.beginRound (w.heap.size+1)).run P w₁ = .ok () w₂∧body.wpIn (FR (some (w.heap.size+1))) 0 P (roundPost P (w.heap.size+1) (fun e W'=>(e = .returned (.bool true)∧∃hid',(∃sk ρk,hid'=(fun b=>B.hid b∨own ρk sk.objs b)∧RWp P n p0 p1 assign body ids ks os K dec l k sk∧sk.base=s.base∧Rel B sk a W' ρk∧rep (view B.hid (own ρk sk.objs) W') (.pt [.sl m (l.map enc)]) v∧
    W'.heap[w.heap.size+1]? = some (.loop (rec .ready none))∧W'.heap[w.heap.size]? = some (.deferred (some []))∧¬ own ρk sk.objs (w.heap.size+1)∧¬ own ρk sk.objs w.heap.size))∨
     (e = .returned (.bool false)∧∃c e s' ρ',((c = .ret∧e = .ret)∨(∃id,c = .exit id∧e = .exit id))∧K e s'∧Rel B s' a W' ρ'∧
    W'.heap[w.heap.size+1]? = some (.loop (rec .done (some c)))∧W'.heap[w.heap.size]? = some (.deferred (some []))∧¬ own ρ' s'.objs (w.heap.size+1)∧¬ own ρ' s'.objs w.heap.size))) a₁ w₂) (fun _ _ _=>False)) hassign ?_
   ·rw[←hact] at hgoal;exact hgoal
   rintro e a1 Wa ⟨B1,s1,ρ1,⟨rfl,hbody⟩,hx1,hr1⟩
   have hb1:=hr1.back hx1
   have fA:Frm W (own ρk sk.objs) (own ρ1 s1.objs) Wa:=by have:=hb1.frm;rw[hBr] at this;exact this
   have oA:∀b,b<W.heap.size→¬ own ρk sk.objs b→¬ own ρ1 s1.objs b:=fun b hb ho h=>by
    rcases fA.new b h with h1|h1
    ·exact ho h1
    ·omega
   have o1A:=oA _ (dlt hl) o1
   have o2A:=oA _ (dlt hd) o2
   have hlA:=(fA.block _ (dlt hl) o1).trans hl
   have hdA:=(fA.block _ (dlt hd) o2).trans hd
   refine⟨_,run_beginRound hlA (by rw[hrec]),?_⟩
   have hbs1:Beside (own ρ1 s1.objs) Wa (Wa.putObj (w.heap.size+1) (.loop { rec .ready none with state := .busy })):=Beside.putObj _ o1A hlA rfl
   have hh:=hr1.here hbs1 a1.defers
   have hbody':=hbody _ (show(B1.here _ _ _ _).n=n by show B1.n=n;rw[hx1.n,hBr];exact hB) a1 _ _ hh
   rw[show(B1.here (Wa.putObj (w.heap.size+1) (.loop { rec .ready none with state := .busy })) (own ρ1 s1.objs) ρ1 a1.defers).ro=some (w.heap.size+1) by show B1.ro=_;rw[hx1.ro,hBr]] at hbody'
   refine wpIn_mono hbody' ?_
   rintro e a3 W3 ⟨B3,s3,ρ3,hK3,hx3,hr3⟩
   have hb3:=hr3.back hx3
   have fB:Frm (Wa.putObj (w.heap.size+1) (.loop { rec .ready none with state := .busy })) (own ρ1 s1.objs) (own ρ3 s3.objs) W3:=hb3.frm
   have hltA:w.heap.size+1<Wa.heap.size:=dlt hlA
   have hl2:(Wa.putObj (w.heap.size+1) (.loop { rec .ready none with state := .busy })).heap[w.heap.size+1]? = some (.loop { rec .ready none with state := .busy }):=World.putObj_heap_same hltA
   have hd2:(Wa.putObj (w.heap.size+1) (.loop { rec .ready none with state := .busy })).heap[w.heap.size]? = some (.deferred (some [])):=(World.putObj_heap_other (by omega)).trans hdA
   have oB:∀b,b<Wa.heap.size→¬ own ρ1 s1.objs b→¬ own ρ3 s3.objs b:=fun b hb ho h=>by
    rcases fB.new b h with h1|h1
    ·exact ho h1
    ·simp at h1;omega
   have o1B:=oB _ hltA o1A
   have o2B:=oB _ (dlt hdA) o2A
   have hl3:=(fB.block _ (dlt hl2) o1A).trans hl2
   have hd3:=(fB.block _ (dlt hd2) o2A).trans hd2
   have hk:∀i,i∈ids→ρ3 i=ρk i:=fun i hi=>by
    have hb1':s1.base=9999::ids:=by rw[hr1.base,hx1.bs,hBr]
    have hb3':s3.base=9999::ids:=by rw[hr3.base,hx3.bs];show B1.bs=_;rw[hx1.bs,hBr]
    have k3:=hb3.keep i (by rw[hb3'];simp[hi])
    have k1:=hb1.keep i (by rw[hb1'];simp[hi])
    rw[hBr] at k1
    exact k3.trans k1
   have frmAll:Frm B.w0 B.own0 (own ρ3 s3.objs) W3:=(Frm.putObj (hrk.frm.trans fA) _ (by omega)).trans fB
   have vle:∀(W4:World),Beside (own ρ3 s3.objs) W3 W4→(view B.hid (own ρk sk.objs) W).le (view B.hid (own ρ3 s3.objs) W4):=by
    intro W4 h4 b o c hc
    refine h4.view b o c ?_
    rw[Qae] at hc ⊢
    have hlt:b<W.heap.size:=World.block_lt_of_cell? W _ hc.2.2
    have hnA:=oA b hlt hc.1
    have hltA':b<Wa.heap.size:=Nat.lt_of_lt_of_le hlt fA.size
    refine⟨oB b hltA' hnA,hc.2.1,?_⟩
    have hne:b≠w.heap.size+1:=fun e=>by
     rw[e] at hc
     rw[Qd1 hl rfl] at hc
     cases hc.2.2
    have h5:W3.heap[b]? = W.heap[b]? :=(fB.block b (by simpa using hltA') hnA).trans ((World.putObj_heap_other hne).trans (fA.block b hlt hc.1))
    rw[World.cell?_of_block (w:=W) h5];exact hc.2.2
   have hrest:∀(W4:World),Beside (own ρ3 s3.objs) W3 W4→Frm B.w0 B.own0 (own ρ3 s3.objs) W4→Rel B (restore sk s3 ids) a W4 ρ3:=by
    intro W4 h4 f4
    refine⟨?_,f4,fun i => ?_,fun i hi => ?_,hrk.n,hrk.defers,hrk.base⟩
    ·have:=hb3.heap
     have e:B1.hid=B.hid:=by rw[hx1.hid,hBr]
     have this':Heap B1.hid ρ3 s3.objs W3:=this
     rw[e] at this'
     exact this'.beside h4
    ·simp only[restore]
     split
     ·rename_i hon
      exact Qeo hk _ _ hon (Qav (vle W4 h4) _ _ (hrk.slots i))
     ·simp only[relA]
    ·have hi':i∈sk.base:=hi
     have:i∈ids:=by
      have hall:=List.all_eq_true.1 hb i (by rw[←hbase];exact hi')
      simpa using hall
     rw[hk i this];exact hrk.keep i hi'
   have hend:∀(jump:Option Code),∃W4,(Instr.endRound (w.heap.size+1) jump).run P W3 = .ok (.bool jump.isNone) W4∧Rel B (restore sk s3 ids) a W4 ρ3∧(view B.hid (own ρk sk.objs) W).le (view B.hid (own ρ3 s3.objs) W4)∧
     W4.heap[w.heap.size+1]? = some (.loop (rec (if jump.isNone then .ready else .done) jump))∧W4.heap[w.heap.size]? = some (.deferred (some [])):=by
    intro jump
    have hrun:=run_endRound (P:=P) jump hl3
    have hbs3:Beside (own ρ3 s3.objs) W3 (W3.putObj (w.heap.size+1) (.loop (rec (if jump.isNone then .ready else .done) jump))):=Beside.putObj _ o1B hl3 rfl
    refine⟨W3.putObj (w.heap.size+1) (.loop (rec (if jump.isNone then .ready else .done) jump)),by rw[hrun,hrec],hrest _ hbs3 (frmAll.putObj _ (by omega)),vle _ hbs3,World.putObj_heap_same (dlt hl3),(World.putObj_heap_other (by omega)).trans hd3⟩
   cases e with
   |normal=>
    obtain⟨W4,hrun,hr4,hv4,hl4,hd4⟩:=hend none
    have hsub:∀b,own ρ3 (norm ks os (restore sk s3 ids)).objs b→own ρ3 s3.objs b:=by
     rintro b ⟨i,hi,hb⟩
     refine⟨i,?_,hb⟩
     rcases norm_objs ks os (restore sk s3 ids) i with e|e
     ·rw[e] at hi;exact hi
     ·rw[e] at hi;cases hi
    have hvn:(view B.hid (own ρ3 s3.objs) W4).le (view B.hid (own ρ3 (norm ks os (restore sk s3 ids)).objs) W4):=by
     intro b o c hc
     rw[Qae] at hc ⊢
     exact⟨fun h=>hc.1 (hsub b h),hc.2⟩
    exact⟨_,W4,hrun,.inl ⟨rfl,_,norm ks os (restore sk s3 ids),ρ3,rfl,hK3,hbase,hr4.norm ks os,Qcf hvn _ _ (Qcf hv4 _ _ hrep),hl4,hd4,fun h=>o1B (hsub _ h),fun h=>o2B (hsub _ h)⟩⟩
   |ret=>
    obtain⟨W4,hrun,hr4,hv4,hl4,hd4⟩:=hend (some .ret)
    exact⟨_,W4,hrun,.inr ⟨rfl,.ret,.ret,restore sk s3 ids,ρ3,.inl ⟨rfl,rfl⟩,hK3,hr4,hl4,hd4,o1B,o2B⟩⟩
   |exit id=>
    obtain⟨W4,hrun,hr4,hv4,hl4,hd4⟩:=hend (some (.exit id))
    exact⟨_,W4,hrun,.inr ⟨rfl,.exit id,.exit id,restore sk s3 ids,ρ3,.inr ⟨id,rfl,rfl⟩,hK3,hr4,hl4,hd4,o1B,o2B⟩⟩
   |goto t=>exact hK3.elim
   |panic ch=>exact hK3.elim
   |outgrown=>exact hK3.elim
  case behind=>
   have fin:∀(st:LoopState)(pe:Option Code)(s':St)(ρ':Nat→Value)(W2:World),st ≠ .busy→Rel B s' a W2 ρ'→W2.heap[w.heap.size+1]? = some (.loop (rec st pe))→W2.heap[w.heap.size]? = some (.deferred (some []))→¬ own ρ' s'.objs (w.heap.size+1)→¬ own ρ' s'.objs w.heap.size→
     ∃W4,(Instr.endLoop (w.heap.size+1)).run P W2 = .ok pe W4∧∃B',Ext B B'∧Rel B' s' { a with defers:=[mark w.heap.size]++a.defers } W4 ρ':=by
    intro st pe s' ρ' W2 hst hrk hl hd o1 o2
    have hrun:=run_endLoop (P:=P) hl (by rw[hrec];exact hst)
    rw[hrec] at hrun
    have hbs:=Beside.putObj (ow:=own ρ' s'.objs) (.loop { (rec st pe) with state := .exhausted }) o1 hl rfl
    refine⟨_,by rw[hrec] at hbs;exact hrun,(B.here _ (own ρ' s'.objs) ρ' ([mark w.heap.size]++a.defers)),?_,by rw[hrec] at hbs;exact hrk.here hbs _⟩
    refine⟨rfl,rfl,rfl,rfl,fun i hi=>hrk.keep i (by rw[hrk.base];exact hi),hrk.frm.putObj _ (by omega),[w.heap.size],?_,by simp,fun D hD => ?_⟩
    ·show [mark w.heap.size]++a.defers=_;rw[hrk.defers];rfl
    ·obtain rfl:D=w.heap.size:=by simpa using hD
     exact⟨hszB,o2,(World.putObj_heap_other (by omega)).trans hd⟩
   rintro e W2 ⟨⟨u,rfl⟩,(⟨hid',sk,ρk,rfl,hRW,hbase,hrk,hrep,hl,hd,o1,o2⟩|⟨c,e,s',ρ',hce,hKe,hrk,hl,hd,o1,o2⟩)⟩
   ·obtain⟨W4,h1,B',h2,h3⟩:=fin _ _ _ _ _ (by simp) hrk hl hd o1 o2
    exact⟨none,W4,h1,B',sk,ρk,hRW,h2,h3⟩
   ·obtain⟨W4,h1,B',h2,h3⟩:=fin _ _ _ _ _ (by simp) hrk hl hd o1 o2
    refine⟨some c,W4,h1,?_⟩
    rcases hce with⟨rfl,rfl⟩|⟨id,rfl,rfl⟩
    ·exact wpIn_ret ⟨B',s',ρ',hKe,h2,h3⟩
    ·exact wpIn_exit ⟨B',s',ρ',hKe,h2,h3⟩
def roundRT {V:Type}(o:Outs V)(N:St→Prop)(s:St)(ids ks os:List Nat)(e:Exit)(ht:HT V)(s2:St):Prop:=
 adm ht s2 fun ht s2=>match ht with
  |.round pl=>match e with
   |.normal=>N (norm ks os (restore s (preps pl s2) ids))
   |_=>False
  |.ret pl v=>match e with
   |.exit id=>o.leaf v (.exit id) (restore s (preps pl s2) ids)
   |.ret=>o.leaf v .ret (restore s (preps pl s2) ids)
   |_=>False
  |_=>False
theorem RWp_zero {α V:Type}{p0 p1:Nat}{assign body:Code}{ids ks os:List Nat}{dec:α→A}{l:List α}(o:Outs V) (v:V){p:Prop}(hp:p) (h:p=o.leaf v .normal s):RWp P n p0 p1 assign body ids ks os o.K dec l 0 s:=
 ⟨v,h ▸ hp⟩
theorem RWp_succ {α V:Type}{p0 p1:Nat}{assign body:Code}{ids ks os:List Nat}{dec:α→A}{l:List α}{k:Nat}{x:α}(o:Outs V) (ht:HT V) (hx:l[k]? = some x){p:Prop}(hp:p)
  (h:p=runT P n 1 assign ht (fun e ht1 s1=>match e with
   |.normal=>runT P n 2 body ht1 (roundRT o (RWp P n p0 p1 assign body ids ks os o.K dec l k) s ids ks os) s1
   |_=>False) (enterR s ids p0 p1 k (dec x))):RWp P n p0 p1 assign body ids ks os o.K dec l (k+1) s:=by
 refine⟨x,hx,W_mono (Qa0 1 assign ht _ _ (h ▸ hp)) ?_⟩
 rintro e s1 ⟨ht1,h1⟩
 cases e with
 |normal=>
  refine⟨rfl,W_end (W_mono (Qa0 2 body ht1 _ _ h1) ?_)⟩
  rintro e s2 ⟨ht2,h2⟩
  unfold roundRT at h2
  obtain⟨ht3,h2⟩:=Qbk _ _ _ h2
  split at h2
  ·rename_i pl
   refine⟨pl,?_⟩
   cases e with
   |normal=>exact h2
   |_=>exact h2.elim
  ·rename_i pl v
   refine⟨pl,?_⟩
   cases e with
   |exit id=>exact⟨v,h2⟩
   |ret=>exact⟨v,h2⟩
   |_=>exact h2.elim
  ·exact h2.elim
 |_=>exact h1.elim
def rfIn:Code→Nat→(Operand×Array Tmp×Code×Code) ⊕ Nat
 |.seq x y,k=>match rfIn x k with | .inl c => .inl c | .inr k'=>rfIn y k'
 |.cond _ x y,k=>match rfIn x k with | .inl c => .inl c | .inr k'=>rfIn y k'
 |.block _ c,k=>rfIn c k
 |.loop c,k=>rfIn c k
 |.rangeFunc g ps a b,k=>match k with|0 => .inl (g,ps,a,b)|k+1 => .inr k
 |_,k => .inr k
def rfAt (fn:Func)(k:Nat):Operand×Array Tmp×Code×Code:=match rfIn (bodyOf fn) k with | .inl c=>c | .inr _=>(.tmp 0, #[],.skip,.skip)
end Go.Ab
