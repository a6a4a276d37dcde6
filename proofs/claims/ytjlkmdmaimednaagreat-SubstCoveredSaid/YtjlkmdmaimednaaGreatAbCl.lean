import Derived.Test.YtjlkmdmaimednaaGreatAbX
import Derived.Shelf.SlicesE.Clone
set_option linter.unusedVariables false
set_option linter.unusedSimpArgs false
namespace Go.Ab
open Go.Shelf Go.Proofs Go.RowKit Go.Lib
set_option maxHeartbeats 2000000 in
set_option maxRecDepth 100000 in
theorem clone_zero {P:Program}{ρ:Ren}(L:SlLaysE0.n41 P ρ) (i0:TypeInfo) (z:Value) (size bytes:Nat) (hi:P.info? (ρ.t 23)=some i0) (hz0:i0.zero=some z) (hz1:i0.size=size) (hz2:i0.bytes=bytes) (hzs:z.cells.size=size) (hsz:0<size)
  (z23:∀w,(Go.sizeOf (ρ.t 23)).run P w = .ok size w) (a:Addr) (c:Nat) (w:World):
  Calls P (ρ.f 41) #[.slice (some a) 0 c] w fun e w'=>∃v',e = .returned v'∧w'.ownsRow w.heap.size (ρ.t 23) size v' 0 []∧Below w.heap.size w w':=by
 have mixed:=L.mixed;have t4:=L.t4;have a4:=L.a4;have z4:=L.z4;have v4:=L.v4;have t22:=L.t22;have a22:=L.a22;have z22:=L.z22;have v22:=L.v22
 have q22:∀(w:World)(a:Option Addr)(n c n' c':Nat),(binOp .eql (ρ.t 22) (.slice a n c) (.slice none n' c')).run P w = .ok (.bool a.isNone) w:=fun w a n c n' c'=>Lib.run_eql_slice_nil w _ _ a n c n' c' L.t22
 have u22:∀w,Sem.run P (underlying (ρ.t 22)) w = .ok (TypeDesc.slice (ρ.t 23)) w:=run_underlying t22
 obtain⟨_,_,FG⟩:=L.f41
 go_enter FG,SlBodyN.n41_ntmps ρ
 go_wp2_with (at_builtin;refine wpList_append_own _ rfl _ _ (ρ.t 22) rfl w.heap.size (ρ.t 23) i0 z size bytes t22 hi hz0 hz1 hz2 hzs hsz _ _ _ rfl (World.ownsRow_made w #[] 0 (Nat.le_refl _) (Nat.zero_le _) (by simp)) a 0 c [] rfl (by simp) (by intro j u hj;simp at hj) (by intro u hu;cases hu) (by unfold maxLen;omega) (by omega) (by simp) ?_)
 intro v' w1 hown hgrow hnil
 go_wp2
 go_ret
 exact⟨v',rfl,by simpa using hown,((Below.refl _ w).alloc (Nat.le_refl _) _).grown hgrow (by simp) (by intro k hk;simp[Value.ownBlock] at hk;omega)⟩
theorem Qbs {C:View}{m:Nat}:∀(rows:List (List T)) (V:Nat→Option Value) (off:Nat),repRows C m rows V off→
  ∃news:List Value,news.length=rows.length*m∧repRows C m rows (fun i=>news[i]?) 0∧(∀c∈news,c.oneCell'=true)∧∀(j:Nat) v,news[j]? = some v→V (off+j)=some v:=by
 intro rows
 induction rows with
 |nil=>intro V off _;exact⟨[],by simp,by simp only[repRows],by simp,by simp⟩
 |cons r rows ih=>
  intro V off hrr
  simp only[repRows] at hrr
  obtain⟨hlen,hrow,hrest⟩:=hrr
  obtain⟨news,h1,h2,h3,h4⟩:=ih V (off+m) hrest
  have row:∀(r:List T)(off:Nat),repRow C r V off→∃us:List Value,us.length=r.length∧repRow C r (fun i=>us[i]?) 0∧(∀c∈us,c.oneCell'=true)∧∀(j:Nat) v,us[j]? = some v→V (off+j)=some v:=by
   intro r
   induction r with
   |nil=>intro off _;exact⟨[],by simp,by simp only[repRow],by simp,by simp⟩
   |cons t r ih2=>
    intro off hrr
    simp only[repRow] at hrr
    obtain⟨⟨c,h5,h6,h7⟩,h8⟩:=hrr
    obtain⟨us,h9,h10,h11,h12⟩:=ih2 (off+1) h8
    refine⟨c::us,by simp[h9],?_,?_,?_⟩
    ·simp only[repRow]
     refine⟨⟨c,by simp,h6,h7⟩,Qbd fun j t' hj => ?_⟩
     obtain⟨c',h13,h14⟩:=Qa9 h10 hj
     exact⟨c',by simpa[Nat.add_comm 1 j] using h13,h14⟩
    ·intro c' hc'
     rcases List.mem_cons.1 hc' with rfl|hc'
     ·exact h6
     ·exact h11 c' hc'
    ·intro j v hj
     match j,hj with
     |0,hj=>simp at hj;subst hj;simpa using h5
     |j+1,hj=>have:=h12 j v (by simpa using hj);rwa [Nat.add_assoc,Nat.add_comm 1 j] at this
  obtain⟨us,h5,h6,h7,h8⟩:=row r off hrow
  refine⟨us++news,by simp[h1,h5,hlen,Nat.add_mul,Nat.add_comm],?_,?_,?_⟩
  ·simp only[repRows]
   refine⟨hlen,Qa1 (View.le.refl _) r (fun i=>us[i]?) _ 0 (fun j c (hj:us[j]? = some c) => ?_) h6,Qbn fun k r' hk => ?_⟩
   ·show(us++news)[j]? = some c
    rw[List.getElem?_append_left (List.getElem?_eq_some_iff.1 hj).1];exact hj
   ·obtain⟨h9,h10⟩:=Qax h2 hk
    refine⟨h9,Qbd fun j t hj => ?_⟩
    obtain⟨c,h11,h12⟩:=Qa9 h10 hj
    refine⟨c,?_,h12⟩
    rw[List.getElem?_append_right (by omega),←h11];congr 1;omega
  ·intro c hc
   rcases List.mem_append.1 hc with hc|hc
   ·exact h7 c hc
   ·exact h3 c hc
  ·intro j v hj
   by_cases hju:j<us.length
   ·rw[List.getElem?_append_left hju] at hj;exact h8 j v hj
   ·rw[List.getElem?_append_right (by omega)] at hj
    have:=h4 _ v hj
    rw[←this];congr 1;omega
theorem own_new {P:Program}{e:TypeId}{hid:Nat→Prop}{ρ:Nat→Value}{w w':World}{size n i:Nat}{v:Value}{news:List Value}{rows:List (List T)}(hh:Heap hid ρ (ofO []) w) (hrow:w'.ownsRow w.heap.size e size v n news) (hn:n=rows.length)
  (hbel:Below w.heap.size w w') (hr:∀C',(view hid (own ρ (ofO [])) w).le C'→repRows C' size rows (fun k=>news[k]?) 0):
  ∃r os' σ u,(r=A.ref i∧os'=[(i,O.row size rows)])∧Ending.returned v = .returned u∧Heap hid σ (ofO os') w'∧relA σ (view hid (own σ (ofO os')) w') r u∧Frm w (own ρ (ofO [])) (own σ (ofO os')) w'∧∀i,(ofO [] i).isSome=true→loose i=false→σ i=ρ i:=by
 have own':∀b,own (fun _=>v) (ofO [(i,O.row size rows)]) b→w.heap.size≤b:=by
  rintro b ⟨q,hq,hb⟩
  rcases hrow.2 with⟨rfl,_⟩|⟨g,cap,cur,rfl,hg,_⟩
  ·simp[blockOf] at hb
  ·simp only[blockOf] at hb;split at hb
   ·cases hb
   ·cases hb;exact hg
 have hle:(view hid (own ρ (ofO [])) w).le (view hid (own (fun _=>v) (ofO [(i,O.row size rows)])) w'):=by
  intro b o c hc
  rw[Qae] at hc ⊢
  have hlt:b<w.heap.size:=World.block_lt_of_cell? w _ hc.2.2
  refine⟨fun ho => ?_,hc.2.1,by rw[World.cell?_of_block (w:=w) (hbel.block b hlt)];exact hc.2.2⟩
  have:=own' b ho;omega
 have lk:∀q o,ofO [(i,O.row size rows)] q=some o→q=i∧o = .row size rows:=by
  intro q o h
  unfold ofO at h
  simp only[List.lookup_cons] at h
  cases hqi:(q==i) with
  |true=>rw[hqi] at h;exact⟨by simpa using hqi,by simpa using h.symm⟩
  |false=>rw[hqi] at h;simp at h
 refine⟨_,_,fun _=>v,v,⟨rfl,rfl⟩,rfl,⟨?_,?_,?_,?_⟩,by simp only[relA],⟨hbel.os,hbel.tape,hbel.output,hbel.size,fun b hb _=>hbel.block b hb,fun b hb => .inr (own' b hb)⟩,fun q hq=>by simp[ofO] at hq⟩
 ·intro q o hq
  obtain⟨rfl,rfl⟩:=lk q o hq
  simp only[relO]
  rcases hrow.2 with⟨rfl,h0⟩|⟨g,cap,cur,rfl,hg,hgb,h1,h2,h3,h4⟩
  ·exact .inl ⟨List.eq_nil_of_length_eq_zero (by omega),Qgi⟩
  ·subst hn
   by_cases hc:cap=0
   ·subst hc
    have:rows=[]:=List.eq_nil_of_length_eq_zero (by omega)
    subst this
    exact .inl ⟨rfl,.inr ⟨_,rfl⟩⟩
   ·refine .inr ⟨g,cap,cur,e,rfl,hgb,h1,h2,h3,?_,by omega⟩
    refine Qai (hr _ hle) fun k c hk hkc => ?_
    simp only[Nat.zero_add] at hkc ⊢
    have e1:(cur.toList.take (rows.length*size))[k]? = some c:=by rw[h4];exact hkc
    rw[List.getElem?_take] at e1
    by_cases hkk:k<rows.length*size
    ·rw[if_pos hkk] at e1;simpa using e1
    ·rw[if_neg hkk] at e1;simp at e1
 ·intro q q' b hq hq' _ _
  obtain⟨o,ho⟩:=Option.isSome_iff_exists.1 hq
  obtain⟨o',ho'⟩:=Option.isSome_iff_exists.1 hq'
  rw[(lk q o ho).1,(lk q' o' ho').1]
 ·intro b hb h;have:=own' b hb;have:=hh.hlt b h;omega
 ·intro b hb;exact Nat.lt_of_lt_of_le (hh.hlt b hb) hbel.size
theorem Con_clone {P:Program}{ρ:Ren}(L:SlLaysE0.n41 P ρ) (i0:TypeInfo) (z:Value) (size bytes:Nat) (hi:P.info? (ρ.t 23)=some i0) (hz0:i0.zero=some z) (hz1:i0.size=size) (hz2:i0.bytes=bytes) (hzs:z.cells.size=size) (hsz:0<size)
  (z23:∀w,(Go.sizeOf (ρ.t 23)).run P w = .ok size w) (ef:Enter P (ρ.f 41)) {rows:List (List T)} {i:Nat} (hl:rows.length≤maxLen) (hb:rows.length*bytes≤140737488355328):
  Con P (ρ.f 41) [.t (.sl size rows)] [] (fun r o=>r = .ref i∧o=[(i,.row size rows)]):=by
 refine⟨ef,fun hid σ w us hh hu => ?_⟩
 simp only[relAs,relA] at hu
 obtain⟨u,us',rfl,hu,rfl⟩:=hu
 simp only[rep] at hu
 rcases hu with⟨rfl,rfl|⟨ad,cap,rfl,_⟩⟩|⟨b,off,cap,rfl,h1,h2,h3⟩
 ·refine(AnyE.slices_Clone_nil L 0 0 w).mono ?_
  rintro e w' ⟨rfl,rfl⟩
  exact own_new (P:=P) (e:=ρ.t 23) (n:=0) (news:=[]) hh ⟨by simp,.inl ⟨rfl,rfl⟩⟩ rfl (Below.refl _ _) (fun C' _=>by simp only[repRows])
 ·refine(clone_zero L i0 z size bytes hi hz0 hz1 hz2 hzs hsz z23 ad cap w).mono ?_
  rintro e w' ⟨v,rfl,hrow,hbel⟩
  exact own_new (P:=P) (n:=0) hh hrow rfl hbel (fun C' _=>by simp only[repRows])
 ·obtain⟨news,h7,h8,h9,h10⟩:=Qbs _ _ off h3
  refine(AnyE.slices_Clone L i0 z size bytes hi hz0 hz1 hz2 hzs hsz z23 b off rows.length cap news w h7 hl hb (fun j v hj => ?_) h9).mono ?_
  ·exact(Qae.1 (h10 j v hj)).2.2
  ·rintro e w' ⟨v,rfl,hrow,_,hbel⟩
   exact own_new (P:=P) hh hrow rfl hbel (fun C' hC=>Qad hC _ _ _ _ 0 (fun _ _ x=>x) h8)
end Go.Ab
