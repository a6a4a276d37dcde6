import Derived.Test.YtjlkmdmaimednaaGreatAbD
import Derived.Laws.StructEq
set_option linter.unusedVariables false
set_option linter.unusedSimpArgs false
namespace Go.Ab
variable {P:Program} {B:Base} {s:St} {a:Act} {w:World} {ρ:Nat→Value}
theorem vNilCheck_sound (h:Rel B s a w ρ){o:Oper}{x:Operand}(ho:o.op = .nilCheck x){p:List Prop}{y:A}(hv:vNilCheck x s=some (p,y)):
  ∃u,(execOp a.eval o).run P w = .ok (.value u) w∧relA ρ (view B.hid (own ρ s.objs) w) y u:=by
 have hx:=h.opd x
 unfold vNilCheck at hv
 split at hv
 ·rename_i i off he
  cases hv
  rw[he] at hx;refine⟨_,?_,hx⟩
  simp only[relA] at hx
  obtain⟨b,h1,h2⟩:=hx
  simp[execOp,ho,h2]
 ·rename_i i k m off he
  cases hv
  rw[he] at hx;refine⟨_,?_,hx⟩
  simp only[relA] at hx
  obtain⟨b,n,cap,h1,h2⟩:=hx
  simp[execOp,ho,h2]
 ·rename_i cs he
  cases hv
  rw[he] at hx;refine⟨_,?_,hx⟩
  simp only[relA,rep] at hx
  obtain⟨b,off,h1,h2⟩:=hx
  simp[execOp,ho,h1]
 ·rename_i f cap he
  cases hv
  rw[he] at hx;refine⟨_,?_,hx⟩
  simp only[relA] at hx
  obtain⟨cs,h1,h2⟩:=hx
  simp[execOp,ho,h1]
 ·cases hv
theorem bound_run (k:IntKind) (l y:Nat) (c:BoundsCode) (h:l≤y):(Instr.sliceBound (.int k (l:Int)) y c).run P w = .ok l w:=by
 have:=run_sliceBound (P:=P) w k (l:Int) y c (by omega) (by omega)
 simpa using this
theorem Qdk {C:View}{m:Nat}:∀(l:Nat){rows:List (List T)}{V:Nat→Option Value}{off:Nat},repRows C m rows V off→repRows C m (rows.drop l) V (off+l*m)
 |0,_,_,_,h=>by simpa using h
 |l+1,[],_,_,_=>by simp only[List.drop_nil,repRows]
 |l+1,r::rs,V,off,h=>by
  simp only[repRows] at h
  have:=Qdk l h.2.2
  rw[show off+(l+1)*m=off+m+l*m by rw[Nat.add_mul];omega]
  simpa using this
theorem Qdl {C:View}{m:Nat}:∀(u:Nat){rows:List (List T)}{V:Nat→Option Value}{off:Nat},repRows C m rows V off→repRows C m (rows.take u) V off
 |0,_,_,_,_=>by simp only[List.take_zero,repRows]
 |u+1,[],_,_,_=>by simp only[List.take_nil,repRows]
 |u+1,r::rs,V,off,h=>by
  simp only[repRows] at h
  simp only[List.take_succ_cons,repRows]
  exact⟨h.1,h.2.1,Qdl u h.2.2⟩
theorem rep_cut {C:View}{m l u:Nat}{rows:List (List T)}{b off cap:Nat}(hlu:l≤u) (hu:u≤rows.length) (h1:rows.length≤cap) (h2:cap≤maxLen) (h3:repRows C m rows (C b) off):
  rep C (.sl m ((rows.take u).drop l)) (sliced (some ⟨b,off,none⟩) l u cap m):=by
 simp only[rep]
 right
 have hlen:((rows.take u).drop l).length=u-l:=by simp;omega
 have h4:=Qdk l (Qdl u h3)
 unfold sliced
 by_cases hc:cap=l
 ·have hul:u=l:=by omega
  subst hul
  have:(rows.take u).drop u=[]:=by simp
  rw[if_pos hc,this]
  exact⟨b,off,cap-u,by simp,Nat.zero_le _,by omega,by simp only[repRows]⟩
 ·rw[if_neg hc,Option.map_some,Addr.add_mid]
  exact⟨b,off+l*m,cap-l,by rw[hlen],by omega,by omega,h4⟩
theorem Qb6 {t:TypeId}{e:TypeId}{i:TypeInfo}(h1:P.underlying t=some (.slice e)) (h2:P.info? e=some i) (ad:Option Addr) (len cap:Nat) (lo hi:Option Value) (l u:Nat)
  (hl:(∃k,lo=some (.int k (l:Int)))∨(lo=none∧l=0)) (hu:(∃k,hi=some (.int k (u:Int)))∨(hi=none∧u=len)) (hlu:l≤u) (huc:u≤cap):
  (Instr.sliceAt t (.slice ad len cap) lo hi none).run P w = .ok (sliced ad l u cap i.size) w:=by
 have hb:=bound_run (P:=P) (w:=w)
 rcases hl with⟨k,rfl⟩|⟨rfl,rfl⟩<;>rcases hu with⟨k',rfl⟩|⟨rfl,rfl⟩ <;>
  simp[Instr.sliceAt,Instr.slice,run_underlying h1,Instr.sliceBounds,sizeOf,typeInfo,h2,hb,hlu,huc,sliced]
theorem run_sliceS {t:TypeId}(h1:P.underlying t=some .string) (b:ByteArray) (lo hi:Option Value) (l u:Nat)
  (hl:(∃k,lo=some (.int k (l:Int)))∨(lo=none∧l=0)) (hu:(∃k,hi=some (.int k (u:Int)))∨(hi=none∧u=b.size)) (hlu:l≤u) (huc:u≤b.size):
  (Instr.sliceAt t (.string b) lo hi none).run P w = .ok (.string (b.extract l u)) w:=by
 have hb:=bound_run (P:=P) (w:=w)
 rcases hl with⟨k,rfl⟩|⟨rfl,rfl⟩<;>rcases hu with⟨k',rfl⟩|⟨rfl,rfl⟩ <;>
  simp[Instr.sliceAt,Instr.slice,run_underlying h1,Instr.sliceBounds,hb,hlu,huc]
theorem Qa3 (h:Rel B s a w ρ){x:Operand}{k:IntKind}{i:Int}(he:ev s x = .t (.v (.int k i))):a.eval x = .int k i:=by
 have:=h.opd x
 rw[he] at this;simpa only[relA,rep] using this
theorem Qet {lo:Option Operand}{y:A}(h:lo.map (ev s)=some y):∃x,lo=some x∧ev s x=y:=by
 simpa[Option.map_eq_some_iff] using h
theorem Qc6 (h:Rel B s a w ρ){t e:TypeId}{x:Operand}{m:Nat}{rows:List (List T)}(he:ev s x = .t (.sl m rows)) (hu:P.underlying t=some (.slice e))
  (hm:sizeT P e=m) (hi:(P.info? e).isSome=true) (lo hi':Option Value) (l u:Nat)
  (hl:(∃k,lo=some (.int k (l:Int)))∨(lo=none∧l=0)) (hh:(∃k,hi'=some (.int k (u:Int)))∨(hi'=none∧u=rows.length)) (hlu:l≤u) (huc:u≤rows.length):
  VOk P B s a w ρ (Instr.sliceAt t (a.eval x) lo hi' none) (.t (.sl m ((rows.take u).drop l))):=by
 have hx:=h.opd x
 rw[he] at hx;simp only[relA,rep] at hx
 obtain⟨i,h2⟩:=Option.isSome_iff_exists.1 hi
 have hm:i.size=m:=by unfold sizeT at hm;rw[h2] at hm;exact hm
 rcases hx with⟨h3,h4⟩|⟨b,off,cap,h3,h4,h5,h6⟩
 ·subst h3
  have hu0:u=0:=by simpa using huc
  have hl0:l=0:=by omega
  subst hu0;subst hl0
  rcases h4 with h4|⟨ad,cap,h4,h5⟩
  ·refine⟨_,by rw[h4];exact Qb6 hu h2 none 0 0 lo hi' 0 0 hl (by simpa using hh) (Nat.le_refl _) (Nat.le_refl _),?_⟩
   simp[sliced,relA,rep,emptySl]
  ·refine⟨_,by rw[h4];exact Qb6 hu h2 (some ad) 0 cap lo hi' 0 0 hl (by simpa using hh) (Nat.le_refl _) (Nat.zero_le _),?_⟩
   simp only[relA,rep,List.take_nil,List.drop_nil]
   refine .inl ⟨trivial,.inr ?_⟩
   unfold sliced
   split
   ·rename_i hc;exact⟨ad,0,by simp[hc],Nat.zero_le _⟩
   ·exact⟨ad.add (0*i.size),cap,by simp only[Nat.sub_zero,Option.map_some,Nat.sub_self],h5⟩
 ·refine⟨_,by rw[h3];exact Qb6 hu h2 _ _ _ lo hi' l u hl hh hlu (by omega),?_⟩
  simp only[relA]
  rw[hm];exact rep_cut hlu huc h4 h5 h6
theorem Qdm (h:Rel B s a w ρ){t:TypeId}{x:Operand}{b:ByteArray}(he:ev s x = .t (.v (.string b))) (hu:P.underlying t=some .string) (lo hi':Option Value) (l u:Nat)
  (hl:(∃k,lo=some (.int k (l:Int)))∨(lo=none∧l=0)) (hh:(∃k,hi'=some (.int k (u:Int)))∨(hi'=none∧u=b.size)) (hlu:l≤u) (huc:u≤b.size):
  VOk P B s a w ρ (Instr.sliceAt t (a.eval x) lo hi' none) (.t (.v (.string (b.extract l u)))):=by
 have hx:=h.opd x
 rw[he] at hx;simp only[relA,rep] at hx
 exact⟨_,by rw[hx];exact run_sliceS hu b lo hi' l u hl hh hlu huc,by simp[relA,rep]⟩
theorem vSlice_sound (h:Rel B s a w ρ){t:TypeId}{x:Operand}{lo hi:Option Operand}{hh:Hint}{p:List Prop}{y:A}(hv:vSlice P t x lo hi hh s=some (p,y)) (hp:AllP p):
  VOk P B s a w ρ (Instr.sliceAt t (a.eval x) (lo.map a.eval) (hi.map a.eval) none) y:=by
 unfold vSlice at hv
 split at hv
 ·rename_i e m rows l u hu he
  split at hv
  ·rename_i hc
   simp only[Bool.and_eq_true,beq_iff_eq] at hc
   obtain⟨hm,hi'⟩:=hc
   split at hv
   ·rename_i h1 h2
    cases hv
    obtain⟨rfl,rfl⟩:=hp
    have:=Qc6 (P:=P) h he hu hm hi' (lo.map a.eval) (hi.map a.eval) 0 rows.length (.inr ⟨by simpa using h1,rfl⟩) (.inr ⟨by simpa using h2,rfl⟩) (Nat.zero_le _) (Nat.le_refl _)
    simpa using this
   ·rename_i k i h1 h2
    cases hv
    obtain⟨rfl,rfl,hle⟩:=hp
    obtain⟨xl,rfl,h3⟩:=Qet h1
    have:=Qc6 (P:=P) h he hu hm hi' ((some xl).map a.eval) (hi.map a.eval) l rows.length (.inl ⟨k,by simp[Qa3 h h3]⟩) (.inr ⟨by simpa using h2,rfl⟩) hle (Nat.le_refl _)
    simpa using this
   ·rename_i k j h1 h2
    cases hv
    obtain⟨rfl,rfl,hle⟩:=hp
    obtain⟨xh,rfl,h3⟩:=Qet h2
    have:=Qc6 (P:=P) h he hu hm hi' (lo.map a.eval) ((some xh).map a.eval) 0 u (.inr ⟨by simpa using h1,rfl⟩) (.inl ⟨k,by simp[Qa3 h h3]⟩) (Nat.zero_le _) hle
    simpa using this
   ·rename_i k i k' j h1 h2
    cases hv
    obtain⟨rfl,rfl,hle,hle'⟩:=hp
    obtain⟨xl,rfl,h3⟩:=Qet h1
    obtain⟨xh,rfl,h4⟩:=Qet h2
    exact Qc6 (P:=P) h he hu hm hi' ((some xl).map a.eval) ((some xh).map a.eval) l u (.inl ⟨k,by simp[Qa3 h h3]⟩) (.inl ⟨k',by simp[Qa3 h h4]⟩) hle hle'
   ·cases hv
  ·cases hv
 ·rename_i e j l u hu he
  split at hv
  ·rename_i m rows k i hobj h1
   split at hv
   ·rename_i hc
    simp only[Bool.and_eq_true,beq_iff_eq] at hc
    obtain⟨_,hi'⟩:=hc
    cases hv
    obtain⟨rfl,rfl,hle⟩:=hp
    obtain⟨xl,rfl,h3⟩:=Qet h1
    obtain⟨i,h2⟩:=Option.isSome_iff_exists.1 hi'
    have hx:=h.opd x
    rw[he] at hx;simp only[relA] at hx
    have ho:=h.heap.obj j _ hobj
    simp only[relO] at ho
    rcases ho with⟨h4,h5⟩|⟨b,cap,cur,e',h4,h5,h6,h7⟩
    ·subst h4
     have hl0:l=0:=by simpa using hle
     subst hl0
     rcases h5 with h5|⟨ad,h5⟩
     ·exact⟨_,by rw[hx,h5];exact Qb6 hu h2 none 0 0 _ _ 0 0 (.inl ⟨k,by simp[Qa3 h h3]⟩) (.inr ⟨rfl,rfl⟩) (Nat.le_refl _) (Nat.le_refl _),by simp only[relA]⟩
     ·exact⟨_,by rw[hx,h5];exact Qb6 hu h2 (some ad) 0 0 _ _ 0 0 (.inl ⟨k,by simp[Qa3 h h3]⟩) (.inr ⟨rfl,rfl⟩) (Nat.le_refl _) (Nat.le_refl _),by simp only[relA]⟩
    ·exact⟨_,by rw[hx,h4];exact Qb6 hu h2 _ _ _ _ _ l rows.length (.inl ⟨k,by simp[Qa3 h h3]⟩) (.inr ⟨rfl,rfl⟩) hle h6,by simp only[relA]⟩
   ·cases hv
  ·cases hv
 ·rename_i b l u hu he
  split at hv
  ·rename_i k i h1 h2
   cases hv
   obtain⟨rfl,rfl,hle⟩:=hp
   obtain⟨xl,rfl,h3⟩:=Qet h1
   exact Qdm (P:=P) h he hu ((some xl).map a.eval) (hi.map a.eval) l _ (.inl ⟨k,by simp[Qa3 h h3]⟩) (.inr ⟨by simpa using h2,rfl⟩) hle (Nat.le_refl _)
  ·rename_i k j h1 h2
   cases hv
   obtain⟨rfl,rfl,hle⟩:=hp
   obtain⟨xh,rfl,h3⟩:=Qet h2
   exact Qdm (P:=P) h he hu (lo.map a.eval) ((some xh).map a.eval) 0 u (.inr ⟨by simpa using h1,rfl⟩) (.inl ⟨k,by simp[Qa3 h h3]⟩) (Nat.zero_le _) hle
  ·rename_i k i k' j h1 h2
   cases hv
   obtain⟨rfl,rfl,hle,hle'⟩:=hp
   obtain⟨xl,rfl,h3⟩:=Qet h1
   obtain⟨xh,rfl,h4⟩:=Qet h2
   exact Qdm (P:=P) h he hu ((some xl).map a.eval) ((some xh).map a.eval) l u (.inl ⟨k,by simp[Qa3 h h3]⟩) (.inl ⟨k',by simp[Qa3 h h4]⟩) hle hle'
  ·cases hv
 ·cases hv
theorem vLen_sound (h:Rel B s a w ρ){t ty:TypeId}{x:Operand}{p:List Prop}{y:A}(hv:vLen P t x s=some (p,y)):VOk P B s a w ρ (Builtin.len_ #[t] ty #[a.eval x]) y:=by
 have hx:=h.opd x
 unfold vLen at hv
 split at hv
 ·rename_i e m rows hu he
  cases hv
  rw[he] at hx;simp only[relA,rep] at hx
  refine⟨.int .i64 rows.length,?_,by simp[relA,rep]⟩
  rcases hx with⟨rfl,h1|⟨ad,cap,h1,_⟩⟩|⟨b,off,cap,h1,_⟩<;>(rw[h1];simp[Builtin.len_,run_underlying hu,goInt])
 ·rename_i e m rows hu he
  cases hv
  rw[he] at hx;simp only[relA,rep] at hx
  refine⟨.int .i64 rows.length,?_,by simp[relA,rep]⟩
  rcases hx with⟨rfl,ad,cap,h1,_⟩|⟨b,off,cap,h1,_⟩<;>(rw[h1];simp[Builtin.len_,run_underlying hu,goInt])
 ·rename_i e j hu he
  rw[he] at hx;simp only[relA] at hx
  split at hv
  ·rename_i m rows ho
   cases hv
   refine⟨.int .i64 rows.length,?_,by simp[relA,rep]⟩
   rcases h.heap.obj j _ ho with⟨rfl,h1|⟨ad,h1⟩⟩|⟨b,cap,cur,e',h1,_⟩<;>(rw[hx,h1];simp[Builtin.len_,run_underlying hu,goInt])
  ·cases hv
 ·rename_i e ad n cap hu he
  cases hv
  rw[he] at hx;simp only[relA,rep] at hx
  refine⟨.int .i64 n,?_,by simp[relA,rep]⟩
  rw[hx];simp[Builtin.len_,run_underlying hu,goInt]
 ·rename_i b hu he
  cases hv
  rw[he] at hx;simp only[relA,rep] at hx
  refine⟨.int .i64 b.size,?_,by simp[relA,rep]⟩
  rw[hx];simp[Builtin.len_,run_underlying hu,goInt]
 ·cases hv
def isNil:Value→Bool
 |.pointer none=>true
 |_=>false
theorem isNil_spec {u:Value}(h:isNil u=true):u = .pointer none:=by
 unfold isNil at h
 split at h
 ·rfl
 ·cases h
theorem eqIn_ptr (d:Nat) (t:TypeId){e:TypeId}(hu:P.underlying t=some (.pointer e)) (ad:Addr):
  (Op.equalIn (d+1) t (.pointer (some ad)) (.pointer none)).run P w = .ok false w∧(Op.equalIn (d+1) t (.pointer none) (.pointer (some ad))).run P w = .ok false w:=by
 constructor<;>simp[Op.equalIn,run_underlying hu]
theorem eqIn_sl (d:Nat) (t:TypeId){e:TypeId}(hu:P.underlying t=some (.slice e)) (ad:Addr) (n c:Nat):(Op.equalIn (d+1) t (.slice (some ad) n c) (.slice none 0 0)).run P w = .ok false w:=by
 simp[Op.equalIn,run_underlying hu]
theorem run_neqNil (op:BinOp) (hop:op = .eql∨op = .neq) (t:TypeId){e:TypeId}(hu:P.underlying t=some (.pointer e)) (ad:Addr):
  (binOp op t (.pointer (some ad)) (.pointer none)).run P w = .ok (.bool (op == .neq)) w∧(binOp op t (.pointer none) (.pointer (some ad))).run P w = .ok (.bool (op == .neq)) w:=by
 have h1:(Op.equal t (.pointer (some ad)) (.pointer none)).run P w = .ok false w:=(eqIn_ptr 9999 t hu ad).1
 have h2:(Op.equal t (.pointer none) (.pointer (some ad))).run P w = .ok false w:=(eqIn_ptr 9999 t hu ad).2
 rcases hop with rfl|rfl
 ·constructor
  ·simp only[binOp,Sem.run_bind,h1,Result.andThen_ok,Sem.run_pure];rfl
  ·simp only[binOp,Sem.run_bind,h2,Result.andThen_ok,Sem.run_pure];rfl
 ·constructor
  ·simp only[binOp,Sem.run_bind,h1,Result.andThen_ok,Sem.run_pure];rfl
  ·simp only[binOp,Sem.run_bind,h2,Result.andThen_ok,Sem.run_pure];rfl
def isPtr:A→Bool
 |.at _ _ | .t (.pt _) | .elt _ _ _ _=>true
 |_=>false
def isNilA:A→Bool
 |.t (.v u)=>isNil u
 |_=>false
theorem isPtr_spec (h:Rel B s a w ρ){x:Operand}(hx:isPtr (ev s x)=true):∃ad,a.eval x = .pointer (some ad):=by
 have h1:=h.opd x
 unfold isPtr at hx
 split at hx
 ·rename_i i o he;rw[he] at h1;simp only[relA] at h1;obtain⟨b,_,h2⟩:=h1;exact⟨_,h2⟩
 ·rename_i cs he;rw[he] at h1;simp only[relA,rep] at h1;obtain⟨b,off,h2,_⟩:=h1;exact⟨_,h2⟩
 ·rename_i i k m o he;rw[he] at h1;simp only[relA] at h1;obtain⟨b,n,cap,_,h2⟩:=h1;exact⟨_,h2⟩
 ·cases hx
theorem isNilA_spec (h:Rel B s a w ρ){x:Operand}(hx:isNilA (ev s x)=true):a.eval x = .pointer none:=by
 have h1:=h.opd x
 unfold isNilA at hx
 split at hx
 ·rename_i u he;rw[he] at h1;simp only[relA,rep] at h1;rw[h1];exact isNil_spec hx
 ·cases hx
def vNil (P:Program)(op:BinOp)(t:TypeId)(x y:Operand)(s:St):Option (List Prop×A):=
 match P.underlying t with
 |some (.slice _)=>match op,ev s x,ev s y with
  |.eql,.t (.sn _ _),.t (.v (.slice none 0 0))=>some ([],.t (boo false))
  |.neq,.t (.sn _ _),.t (.v (.slice none 0 0))=>some ([],.t (boo true))
  |_,_,_=>none
 |some (.pointer _)=>
  if (isPtr (ev s x)&&isNilA (ev s y))||(isNilA (ev s x)&&isPtr (ev s y)) then
   match op with
   |.eql=>some ([],.t (boo false))
   |.neq=>some ([],.t (boo true))
   |_=>none
  else none
 |_=>none
theorem eqGuard_ptr (op:BinOp) (t:TypeId) (x y:Operand) (p q:Option Addr):(eqGuard op t x y (.pointer p) (.pointer q)).run P w = .ok () w:=by
 unfold eqGuard
 cases op<;>simp
theorem vNil_sound (h:Rel B s a w ρ){o:Oper}{op:BinOp}{t yt:TypeId}{x y:Operand}(ho:o.op = .binOp op t x y yt){p:List Prop}{z:A}(hv:vNil P op t x y s=some (p,z)):
  ∃u,(execOp a.eval o).run P w = .ok (.value u) w∧relA ρ (view B.hid (own ρ s.objs) w) z u:=by
 unfold vNil at hv
 split at hv
 ·rename_i e hu
  have h1:=h.opd x
  have h2:=h.opd y
  have eqs:∀ad n c,(Op.equal t (.slice (some ad) n c) (.slice none 0 0)).run P w = .ok false w:=fun ad n c=>eqIn_sl 9999 t hu ad n c
  have gd:∀op ad n c,(eqGuard op t x y (.slice (some ad) n c) (.slice none 0 0)).run P w = .ok () w:=fun op ad n c=>by unfold eqGuard;cases op<;>simp
  split at hv
  ·rename_i m rows hx hy
   cases hv
   rw[hx] at h1;rw[hy] at h2;simp only[relA,rep] at h1 h2
   obtain⟨ad,n',c',h3⟩:∃ad n' c',a.eval x = .slice (some ad) n' c':=by
    rcases h1 with⟨_,ad,cap,h3,_⟩|⟨b,off,cap,h3,_⟩
    ·exact⟨_,_,_,h3⟩
    ·exact⟨_,_,_,h3⟩
   exact⟨.bool false,by simp[execOp,ho,h3,h2,gd,binOp,eqs],by simp[relA,rep]⟩
  ·rename_i m rows hx hy
   cases hv
   rw[hx] at h1;rw[hy] at h2;simp only[relA,rep] at h1 h2
   obtain⟨ad,n',c',h3⟩:∃ad n' c',a.eval x = .slice (some ad) n' c':=by
    rcases h1 with⟨_,ad,cap,h3,_⟩|⟨b,off,cap,h3,_⟩
    ·exact⟨_,_,_,h3⟩
    ·exact⟨_,_,_,h3⟩
   exact⟨.bool true,by simp[execOp,ho,h3,h2,gd,binOp,eqs],by simp[relA,rep]⟩
  ·cases hv
 ·rename_i e hu
  split at hv
  ·rename_i hc
   have hop:(op = .eql∨op = .neq)∧z = .t (boo (op == .neq)):=by
    split at hv
    ·cases hv;exact⟨.inl rfl,rfl⟩
    ·cases hv;exact⟨.inr rfl,rfl⟩
    ·cases hv
   refine⟨.bool (op == .neq),?_,by rw[hop.2];simp[relA,rep]⟩
   rw[Bool.or_eq_true,Bool.and_eq_true,Bool.and_eq_true] at hc
   rcases hc with⟨h1,h2⟩|⟨h1,h2⟩
   ·obtain⟨ad,h3⟩:=isPtr_spec h h1
    have h4:=isNilA_spec h h2
    have h5:=(run_neqNil (P:=P) (w:=w) op hop.1 t hu ad).1
    simp[execOp,ho,h3,h4,eqGuard_ptr,h5]
   ·obtain⟨ad,h3⟩:=isPtr_spec h h2
    have h4:=isNilA_spec h h1
    have h5:=(run_neqNil (P:=P) (w:=w) op hop.1 t hu ad).2
    simp[execOp,ho,h3,h4,eqGuard_ptr,h5]
  ·cases hv
 ·cases hv
theorem wrap_in {k:IntKind}{n:Int}(h1:k.min≤n) (h2:n≤k.max):k.wrap n=n:=by
 unfold IntKind.min at h1
 unfold IntKind.max at h2
 unfold IntKind.wrap
 cases k<;>simp[IntKind.signed,IntKind.bits] at *<;>(try split)<;>omega
theorem Qca (h:Rel B s a w ρ){x:Operand}{k:IntKind}{i:Int}(he:ev s x = .t (.v (.int k i))):a.eval x = .int k i:=Qa3 h he
theorem Qa2 (op:BinOp) (t:TypeId) (x y:Operand) (k k':IntKind) (p q:Int):(eqGuard op t x y (.int k p) (.int k' q)).run P w = .ok () w:=by
 unfold eqGuard
 cases op<;>simp
theorem vArith_sound (h:Rel B s a w ρ){o:Oper}{op:BinOp}{t yt:TypeId}{x y:Operand}(ho:o.op = .binOp op t x y yt){hh:Hint}{p:List Prop}{z:A}(hv:vArith op x y hh s=some (p,z)) (hp:AllP p):
  ∃u,(execOp a.eval o).run P w = .ok (.value u) w∧relA ρ (view B.hid (own ρ s.objs) w) z u:=by
 unfold vArith at hv
 split at hv
 ·rename_i k i k' j h1 h2
  split at hv
  ·rename_i hk
   have hk:k=k':=by simpa using hk
   subst hk
   have e1:=Qca h h1
   have e2:=Qca h h2
   split at hv
   ·cases hv
    exact⟨.int k (i+j),by simp[execOp,ho,e1,e2,Qa2,binOp,Op.intArith,wrap_in hp.1 hp.2],by simp[relA,rep]⟩
   ·cases hv
    exact⟨.int k (i-j),by simp[execOp,ho,e1,e2,Qa2,binOp,Op.intArith,wrap_in hp.1 hp.2],by simp[relA,rep]⟩
   ·cases hv
    exact⟨.int k (i*j),by simp[execOp,ho,e1,e2,Qa2,binOp,Op.intArith,wrap_in hp.1 hp.2],by simp[relA,rep]⟩
   ·cases hv
    obtain⟨h3,h4,h5⟩:=hp
    have h6:i/j≤i:=Int.ediv_le_self j h3
    have h7:0≤i/j:=Int.ediv_nonneg h3 (by omega)
    have h8:k.min≤0:=by cases k<;>decide
    have h9:k.wrap (i.tdiv j)=i/j:=by
     rw[Int.tdiv_eq_ediv_of_nonneg h3];exact wrap_in (by omega) (by omega)
    have h10:j≠0:=by omega
    exact⟨.int k (i/j),by simp[execOp,ho,e1,e2,Qa2,binOp,Op.intDiv,h10,h9],by simp[relA,rep]⟩
   ·cases hv
    obtain⟨h3,h4⟩:=hp
    have h10:j≠0:=by omega
    have h9:i.tmod j=i%j:=Int.tmod_eq_emod_of_nonneg h3
    exact⟨.int k (i%j),by simp[execOp,ho,e1,e2,Qa2,binOp,Op.intDiv,h10,h9],by simp[relA,rep]⟩
   ·cases hv
  ·cases hv
 ·rename_i k i k' j _ h1 h2
  split at hv
  ·rename_i hk
   have hk:k=k':=by simpa using hk
   subst hk
   have e1:=Qca h h1
   have e2:=Qca h h2
   split at hv
   ·cases hv
    have hp:j≠0:=hp
    exact⟨.int k (k.wrap (i.tdiv j)),by simp[execOp,ho,e1,e2,Qa2,binOp,Op.intDiv,hp],by simp[relA,rep]⟩
   ·cases hv
    have hp:j≠0:=hp
    exact⟨.int k (i.tmod j),by simp[execOp,ho,e1,e2,Qa2,binOp,Op.intDiv,hp],by simp[relA,rep]⟩
   ·cases hv
  ·cases hv
 ·cases hv
theorem vConv_sound (h:Rel B s a w ρ){src dst:TypeId}{x:Operand}{hh:Hint}{p:List Prop}{z:A}(hv:vConv P src dst x hh s=some (p,z)) (hp:AllP p):VOk P B s a w ρ (convert src dst (a.eval x)) z:=by
 unfold vConv at hv
 split at hv
 ·rename_i k0 i d k h1 h2 h3
  cases hv
  have e1:=Qca h h1
  exact⟨.int k i,by rw[e1];simp[convert,run_underlying h2,run_underlying h3,Conv.intToInt,wrap_in hp.1 hp.2],by simp[relA,rep]⟩
 ·cases hv
theorem Qeu (h:Rel B s a w ρ){mn:Bool}{xs:List Operand}{p:List Prop}{z:A}(hv:vMinMax mn xs s=some (p,z)) (ts:Array TypeId) (ty:TypeId):
  VOk P B s a w ρ (if mn then Builtin.min_ ts ty (xs.map a.eval).toArray else Builtin.max_ ts ty (xs.map a.eval).toArray) z:=by
 unfold vMinMax at hv
 split at hv
 ·rename_i k i k' j he
  cases hv
  obtain⟨x,y,rfl⟩:∃x y,xs=[x,y]:=by
   match xs,he with
   |[x,y],_=>exact⟨x,y,rfl⟩
   |[],he=>simp at he
   |[x],he=>simp at he
   |x::y::z::xs,he=>simp at he
  ·simp only[List.map_cons,List.map_nil,List.cons.injEq,and_true] at he
   have e1:=Qca h he.1
   have e2:=Qca h he.2
   refine⟨.int k (if mn then min i j else max i j),?_,by simp[relA,rep]⟩
   simp only[List.map_cons,List.map_nil,e1,e2]
   cases mn
   ·have e:(if j>i then j else i)=max i j:=by split<;>omega
    have:=run_max_int2 (P:=P) w ts ty k k' i j
    rw[e] at this
    simpa using this
   ·have e:(if j<i then j else i)=min i j:=by split<;>omega
    have:=run_min_int2 (P:=P) w ts ty k k' i j
    rw[e] at this
    simpa using this
 ·cases hv
def bShl (k:IntKind)(a b:Int):Int:=k.wrap (a*2 ^ (min b.toNat k.bits))
def bShr (k:IntKind)(a b:Int):Int:=a.fdiv (2 ^ (min b.toNat k.bits))
def vShift (op:BinOp)(x y:Operand)(h:Hint)(s:St):Option (List Prop×A):=
 match h,ev s x,ev s y with
 |.nw,.t (.v (.int k a)),.t (.v (.int _ b))=>match op with
  |.shl=>some ([0≤b],.t (.v (.int k (bShl k a b))))
  |.shr=>some ([0≤b],.t (.v (.int k (bShr k a b))))
  |_=>none
 |_,_,_=>none
theorem vShift_sound (h:Rel B s a w ρ){o:Oper}{op:BinOp}{t yt:TypeId}{x y:Operand}(ho:o.op = .binOp op t x y yt){hh:Hint}{p:List Prop}{z:A}(hv:vShift op x y hh s=some (p,z)) (hp:AllP p):
  ∃u,(execOp a.eval o).run P w = .ok (.value u) w∧relA ρ (view B.hid (own ρ s.objs) w) z u:=by
 unfold vShift at hv
 split at hv
 ·rename_i k i k' j h1 h2
  have e1:=Qca h h1
  have e2:=Qca h h2
  split at hv
  ·cases hv
   have hp:0≤j:=hp
   have hn:¬ j<0:=by omega
   exact⟨.int k (bShl k i j),by simp[execOp,ho,e1,e2,Qa2,binOp,Op.shift,hn,bShl],by simp[relA,rep]⟩
  ·cases hv
   have hp:0≤j:=hp
   have hn:¬ j<0:=by omega
   exact⟨.int k (bShr k i j),by simp[execOp,ho,e1,e2,Qa2,binOp,Op.shift,hn,bShr],by simp[relA,rep]⟩
  ·cases hv
 ·cases hv
def eqFs (P:Program)(eq:TypeId→Value→Value→Option Bool)(xs ys:Array Value):List Field→Option Bool
 |[]=>some true
 |f::fs=>
  if f.name = "_" then none else
  match still P (part f.type xs f.offset),still P (part f.type ys f.offset) with
  |some u,some v=>match eq f.type u v,eqFs P eq xs ys fs with
   |some r,some q=>some (r&&q)
   |_,_=>none
  |_,_=>none
def eqVal (P:Program):Nat→TypeId→Value→Value→Option Bool
 |0,_,_,_=>none
 |d+1,t,x,y=>match P.underlying t,x,y with
  |some (.int _),.int k a,.int k' b=>if k=k' then some (a==b) else none
  |some .bool,.bool a,.bool b=>some (a==b)
  |some .string,.string a,.string b=>some (a.toList==b.toList)
  |some (.struct fs),.agg xs,.agg ys=>if P.stoodInHeld t then none else eqFs P (eqVal P d) xs ys fs.toList
  |_,_,_=>none
theorem eqFs_run (d m:Nat) (hd:∀(t:TypeId)(x y:Value)(b:Bool)(w:World),eqVal P d t x y=some b→(Op.equalIn (d+m) t x y).run P w = .ok b w) (xs ys:Array Value):∀(fs:List Field)(b:Bool)(w:World),eqFs P (eqVal P d) xs ys fs=some b→(Op.eqFields (d+m) xs ys fs).run P w = .ok b w
 |[],b,w,h=>by simp[eqFs] at h;subst h;simp[Op.eqFields]
 |f::fs,b,w,h=>by
  simp only[eqFs] at h
  split at h
  ·cases h
  ·rename_i hn
   split at h
   ·rename_i u v h1 h2
    split at h
    ·rename_i r q h3 h4
     cases h
     have e3:=hd f.type u v r w h3
     have e4:=eqFs_run d m hd xs ys fs q w h4
     simp only[Op.eqFields,ne_eq,hn,not_false_eq_true,if_true,Sem.run_bind,Qdg _ _ w h1,Qdg _ _ w h2,Result.andThen_ok,e3]
     cases r
     ·simp
     ·simpa using e4
    ·cases h
   ·cases h
theorem eqVal_run:∀(d:Nat)(t:TypeId)(x y:Value)(b:Bool)(m:Nat)(w:World),eqVal P d t x y=some b→(Op.equalIn (d+m) t x y).run P w = .ok b w
 |0,t,x,y,b,m,w,h=>by simp[eqVal] at h
 |d+1,t,x,y,b,m,w,h=>by
  rw[show d+1+m=(d+m)+1 by omega]
  simp only[eqVal] at h
  split at h
  ·rename_i k0 k i k' j hu
   split at h
   ·rename_i hk;subst hk;cases h;exact run_equalIn_int w _ t k k0 i j hu
   ·cases h
  ·rename_i i j hu;cases h;exact run_equalIn_bool w _ t i j hu
  ·rename_i i j hu;cases h;exact run_equalIn_string w _ t i j hu
  ·rename_i fs xs ys hu
   split at h
   ·cases h
   ·rename_i hs
    have hf:P.fieldsOf t=fs:=by simp[Program.fieldsOf,hu]
    rw[run_equalIn_struct w (d+m) t xs ys (by rw[hf];exact hu) (by simpa using hs),hf]
    exact eqFs_run d m (fun t x y b w hh=>eqVal_run d t x y b m w hh) xs ys fs.toList b w h
  ·cases h
def vEqS (P:Program)(op:BinOp)(t:TypeId)(x y:Operand)(s:St):Option (List Prop×A):=
 match (ev s x).val?,(ev s y).val? with
 |some (.agg xs),some (.agg ys)=>if P.eqGuardType P.depth t then none else match eqVal P 8 t (.agg xs) (.agg ys),op with
  |some b,.eql=>some ([],.t (boo b))
  |some b,.neq=>some ([],.t (boo (!b)))
  |_,_=>none
 |_,_=>none
theorem vEqS_sound (h:Rel B s a w ρ){o:Oper}{op:BinOp}{t yt:TypeId}{x y:Operand}(ho:o.op = .binOp op t x y yt){p:List Prop}{z:A}(hv:vEqS P op t x y s=some (p,z)):
  ∃u,(execOp a.eval o).run P w = .ok (.value u) w∧relA ρ (view B.hid (own ρ s.objs) w) z u:=by
 unfold vEqS at hv
 split at hv
 ·rename_i xs ys h1 h2
  have e1:=val?_eq _ _ _ h1 (h.opd x)
  have e2:=val?_eq _ _ _ h2 (h.opd y)
  split at hv
  ·cases hv
  ·rename_i hg
   have hg:P.eqGuardType P.depth t=false:=by simpa using hg
   split at hv
   ·rename_i b hb
    cases hv
    have hr:=eqVal_run 8 t _ _ b 9992 w hb
    exact⟨.bool b,by simp only[execOp,ho,e1,e2];simp[run_eqGuard_agg w _ t x y xs ys hg,run_eql_struct,hr],by simp[relA,rep]⟩
   ·rename_i b hb
    cases hv
    have hr:=eqVal_run 8 t _ _ b 9992 w hb
    exact⟨.bool (!b),by simp only[execOp,ho,e1,e2];simp[run_eqGuard_agg w _ t x y xs ys hg,run_neq_struct,hr],by simp[relA,rep]⟩
   ·cases hv
 ·cases hv
def fieldOk (P:Program)(t:TypeId)(f:Nat):Bool:=match fieldT P t f with|some fd=>(P.underlying fd.type).isSome|none=>false
def vOp (P:Program)(o:Oper)(h:Hint)(s:St):Option (List Prop×A):=
 match o.op with
 |.move x | .assign x=>some ([],ev s x)
 |.load t x=>if (P.underlying t).isSome then vLoad P t x h s else none
 |.fieldAddr t x f=>vFieldAddr P t x f s
 |.field t x f=>if fieldOk P t f then vField P t x f s else none
 |.indexAddr t x i=>vIndexAddr P t x i h s
 |.index t x i=>vIndex P t x i h s
 |.extract x i=>vExtract x i s
 |.pick c x y=>match ev s c with
  |.t (.v (.bool true))=>some ([],ev s x)
  |.t (.v (.bool false))=>some ([],ev s y)
  |_=>none
 |.nilCheck x=>vNilCheck x s
 |.slice t x lo hi none=>vSlice P t x lo hi h s
 |.binOp op t x y _=>orE (vArith op x y h s) (orE (vShift op x y h s) (orE (vNil P op t x y s) (orE (vEqS P op t x y s) (vStill P o s))))
 |.convert src dst x=>orE (vConv P src dst x h s) (vStill P o s)
 |.unOp .. => vStill P o s
 |.makeFunc fn fs cs=>vMk fn fs.toList cs.toList s
 |.call { callee := .builtin .len,args:=args,argTypes:=ts }=>match args.toList,ts.toList with
  |[x],[t]=>vLen P t x s
  |_,_=>none
 |.call { callee := .builtin .min,args:=args,.. }=>vMinMax true args.toList s
 |.call { callee := .builtin .max,args:=args,.. }=>vMinMax false args.toList s
 |_=>none
theorem Qev (h:Rel B s a w ρ):∀(xs:List Operand),relAs ρ (view B.hid (own ρ s.objs) w) (xs.map (ev s)) (xs.map a.eval)
 |[]=>by simp[relAs]
 |x::xs=>by simp only[List.map_cons,relAs];exact⟨_,_,rfl,h.opd x,Qev h xs⟩
theorem Qew {x y:Option (List Prop×A)}{p:List Prop}{z:A}(h:orE x y=some (p,z)):x=some (p,z)∨y=some (p,z):=by
 unfold orE at h
 split at h
 ·cases h;exact .inl rfl
 ·exact .inr h
theorem Qa4 {r:Sem Value}{z:A}(h:VOk P B s a w ρ r z):∃u,(do pure (Next.value (←r)):Sem Next).run P w = .ok (.value u) w∧relA ρ (view B.hid (own ρ s.objs) w) z u:=by
 obtain⟨u,h1,h2⟩:=h
 exact⟨u,by simp[h1],h2⟩
theorem vOp_sound (h:Rel B s a w ρ){o:Oper}{hh:Hint}{p:List Prop}{z:A}(hv:vOp P o hh s=some (p,z)) (hp:AllP p):
  ∃u,(execOp a.eval o).run P w = .ok (.value u) w∧relA ρ (view B.hid (own ρ s.objs) w) z u:=by
 unfold vOp at hv
 split at hv
 ·rename_i x ho;cases hv;exact⟨_,by simp[execOp,ho],h.opd x⟩
 ·rename_i x ho;cases hv;exact⟨_,by simp[execOp,ho],h.opd x⟩
 ·rename_i t x ho
  split at hv
  ·rename_i hd
   obtain⟨d,hd⟩:=Option.isSome_iff_exists.1 hd
   have:=Qa4 (vLoad_sound (P:=P) h hd hv hp);simpa only[execOp,ho] using this
  ·cases hv
 ·rename_i t x f ho;have:=Qa4 (Qf4 (P:=P) h hv);simpa only[execOp,ho] using this
 ·rename_i t x f ho
  split at hv
  ·rename_i hd
   have:=Qa4 (vField_sound (P:=P) h hv fun fd hf=>by unfold fieldOk at hd;simp only[hf] at hd;exact hd);simpa only[execOp,ho] using this
  ·cases hv
 ·rename_i t x i ho;have:=Qa4 (Qf5 (P:=P) h hv hp);simpa only[execOp,ho] using this
 ·rename_i t x i ho;have:=Qa4 (vIndex_sound (P:=P) h hv hp);simpa only[execOp,ho] using this
 ·rename_i x i ho;have:=Qa4 (vExtract_sound (P:=P) h hv);simpa only[execOp,ho] using this
 ·rename_i c x y ho
  have hc:=h.opd c
  split at hv
  ·rename_i he
   cases hv
   rw[he] at hc;simp only[relA,rep] at hc
   exact⟨_,by simp[execOp,ho,hc,asBool],h.opd x⟩
  ·rename_i he
   cases hv
   rw[he] at hc;simp only[relA,rep] at hc
   exact⟨_,by simp[execOp,ho,hc,asBool],h.opd y⟩
  ·cases hv
 ·rename_i x ho;exact vNilCheck_sound h ho hv
 ·rename_i t x lo hi ho;have:=Qa4 (vSlice_sound (P:=P) h hv hp);simpa only[execOp,ho,Option.map_none] using this
 ·rename_i op t x y yt ho
  rcases Qew hv with h1|h1
  ·exact vArith_sound h ho h1 hp
  ·rcases Qew h1 with h2|h2
   ·exact vShift_sound h ho h2 hp
   ·rcases Qew h2 with h3|h3
    ·exact vNil_sound h ho h3
    ·rcases Qew h3 with h4|h4
     ·exact vEqS_sound h ho h4
     ·exact Qdo h h4
 ·rename_i src dst x ho
  rcases Qew hv with h1|h1
  ·have:=Qa4 (vConv_sound (P:=P) h h1 hp);simpa only[execOp,ho] using this
  ·exact Qdo h h1
 ·exact Qdo h hv
 ·rename_i fn fs cs ho
  unfold vMk at hv
  split at hv
  ·rename_i f hfs
   cases hv
   have hfs:fs = #[]:=by simpa using hfs
   subst hfs
   refine⟨.func (.func f) #[] (cs.map a.eval),by simp[execOp,ho,Instr.makeFunc],?_⟩
   simp only[relA]
   exact⟨_,rfl,by simpa using Qev h cs.toList⟩
  ·cases hv
 ·rename_i args ts ho
  split at hv
  ·rename_i x t hx ht
   have e1:args = #[x]:=by rw[←Array.toList_inj];simpa using hx
   have e2:ts = #[t]:=by rw[←Array.toList_inj];simpa using ht
   have:=Qa4 (vLen_sound (P:=P) (ty:=o.type) h hv)
   simpa[execOp,ho,e1,e2,resolve,invoke,builtin] using this
  ·cases hv
 ·rename_i args ts ho
  have:=Qa4 (Qeu (P:=P) h hv ts o.type)
  rw[show(args.toList.map a.eval).toArray=args.map a.eval by rw[←Array.toList_inj];simp] at this
  simpa[execOp,ho,resolve,invoke,builtin] using this
 ·rename_i args ts ho
  have:=Qa4 (Qeu (P:=P) h hv ts o.type)
  rw[show(args.toList.map a.eval).toArray=args.map a.eval by rw[←Array.toList_inj];simp] at this
  simpa[execOp,ho,resolve,invoke,builtin] using this
 ·cases hv
end Go.Ab
