/- Texts put together. -/
import Derived.Test.YtjlkmdmaimednaaGreatAbCl
import Derived.Shelf.SlGeneric
import Derived.Shelf.SlicesE.Clone
import Derived.Ground.SlgnProg
import Derived.Test.YtjlkmdmaimednaaGreatRA
import Derived.WalkKit
import Derived.Deep.RegionLaw
import Derived.Shelf.RegionOpenPlain
import Derived.Deep.LoopGhost
import Derived.Lib.SliceRun
import Derived.Laws.IdiomCopy
import Derived.Test.YtjlkmdmaimednaaGreatAbIn
import Derived.Test.YtjlkmdmaimednaaGreatIN0
import Derived.Test.YtjlkmdmaimednaaGreatTLotB
import Derived.Test.YtjlkmdmaimednaaGreatTBask
import Derived.Test.YtjlkmdmaimednaaGreatTSpB
import Derived.Test.YtjlkmdmaimednaaGreatRC
set_option linter.unusedVariables false
set_option linter.unusedSimpArgs false
namespace Go.Proofs
open Go.Shelf
def Tryz.clone70_ren:Go.Shelf.Ren:=⟨fun|41=>70|n=>n,fun|22=>30|23=>49|4=>4|n=>n,fun|n=>n⟩
theorem Tryz.clone70:Go.Proofs.SlLaysE0.n41 Tryz.prog Tryz.clone70_ren:={
 mixed:=by kernel_rfl
 f41:=⟨Tryz.f70.name,by decide,Tryz.func70.trans (congrArg some (by kernel_rfl))⟩
 t4:=Tryz.underlying4
 a4:=Tryz.isAgg4
 z4:=Tryz.sizeOf4
 v4:=Tryz.zeroValue4
 t22:=Tryz.underlying30
 a22:=Tryz.isAgg30
 z22:=Tryz.sizeOf30
 v22:=Tryz.zeroValue30 }
end Go.Proofs
namespace Go.Proofs.YtjlkmdmaimednaaGreat.Pure
open Go Go.Ab Go.Proofs Go.Proofs.YtjlkmdmaimednaaGreat.R
theorem Clone70_r {l:List zab}(h:l.length≤1000000000):CloneR Tryz.prog 70 2 zab.enc l l:=by
 have hi0:(Tryz.prog.info? 49).map (fun i=>(i.zero.map (·.cells.size),i.size,i.bytes))=some (some 2,2,24):=by kernel_rfl
 obtain⟨i0,hi⟩:∃i0,Tryz.prog.info? 49=some i0:=Option.isSome_iff_exists.1 (by kernel_rfl)
 rw[hi] at hi0
 simp only[Option.map_some,Option.some.injEq,Prod.mk.injEq,Option.map_eq_some_iff] at hi0
 obtain⟨⟨z,hz,hzs⟩,h1,h2⟩:=hi0
 exact Con_clone Tryz.clone70 i0 z 2 24 hi hz h1 h2 hzs (by decide) Tryz.sizeOf49 (enters_of Tryz.func70 (by kernel_rfl) rfl) (by rw[List.length_map];simp only[maxLen];omega) (by rw[List.length_map];omega)
end Go.Proofs.YtjlkmdmaimednaaGreat.Pure
namespace Go.Proofs.YtjlkmdmaimednaaGreat.Pure
open Go Go.Ab Go.RowKit Go.Lib Go.Proofs Go.Shelf
set_option linter.unusedVariables false
set_option linter.unusedSimpArgs false
namespace Del
structure Aside (p:Prop):Prop where
 out:p
theorem run_clear_cells {P:Program}{n:Nat}(w:World) (t e ty:TypeId) (z:Value) (ht:P.underlying t=some (.slice e)) (hv:∀w,(zeroValue e).run P w = .ok z w) (h1:∀v∈(Builtin.zeroCells z.cells n).toList,v.oneCell'=true) (b o c:Nat) (hn:0<n)
  (hc:∀j,j<(Builtin.zeroCells z.cells n).toList.length→(w.cell? ⟨b,o+j,none⟩).isSome=true) (hf:∀j,j<(Builtin.zeroCells z.cells n).toList.length→w.frozen? ⟨b,o+j,none⟩=false):
  (Builtin.clear_ #[t] ty #[.slice (some ⟨b,o,none⟩) n c]).run P w = .ok (.tuple #[]) (w.setCells b o (Builtin.zeroCells z.cells n).toList):=by
 have hst:=run_storeCells_cells (P:=P) b o (Builtin.zeroCells z.cells n).toList 0 w (by simpa using hc) (by simpa using hf) h1
 simp only[Nat.add_zero] at hst
 obtain⟨m,rfl⟩:∃m,n=m+1:=⟨n-1,by omega⟩
 simp[Builtin.clear_,run_underlying ht,hv,hst]
set_option maxHeartbeats 4000000 in
set_option maxRecDepth 1000000 in
theorem walk (g n cap i j:Nat) (et:TypeId) (cur:Array Value) (inner:List Value) (w:World) (hlt:i<j) (c2:j≤n) (hcap:n≤cap) (hmax':cap≤9223372036854775807) (hh:w.heap[g]? = some (.cells cur et (0,0))) (hsz:cur.size=cap*2)
  (hil:inner.length=n*2) (hcur:∀q,q<n*2→cur[q]? = inner[q]?) (hone:∀u∈inner,u.oneCell'=true):
  ∃zs:List Value,zs.length=(n-(i+(n-j)))*2∧
   Calls Tryz.prog 72 #[.slice (some ⟨g,0,none⟩) n cap,.int .i64 (i:Int),.int .i64 (j:Int)] w fun e w'=>
    e = .returned (.slice (some ⟨g,0,none⟩) (i+(n-j)) cap)∧w'=(w.drew.setCells g (0+i*2) (inner.drop (j*2))).setCells g ((i+(n-j))*2) zs:=by
 have cell:∀(W:World)(cc:Array Value),W.heap[g]? = some (.cells cc et (0,0))→∀q,W.cell? ⟨g,q,none⟩=cc[q]? :=fun W cc e q=>by simp[World.cell?,e]
 have froz:∀(W:World)(cc:Array Value),W.heap[g]? = some (.cells cc et (0,0))→∀q,W.frozen? ⟨g,q,none⟩=false:=fun W cc e q=>by simp[World.frozen?,e]
 obtain⟨news,hnews⟩:∃news,news=inner.drop (j*2):=⟨_,rfl⟩
 have hlen:news.length=(n-j)*2:=by rw[hnews,List.length_drop,hil];omega
 obtain⟨A,hA,hsrc⟩:∃A:Addr,(if cap=j then some (⟨g,0,none⟩:Addr) else some ⟨g,j*2,none⟩)=some A∧Aside (∀t u,news[t]? = some u→w.drew.cell? (A.add t)=some u):=by
  by_cases hc:cap=j
  ·refine⟨⟨g,0,none⟩,by simp[hc],⟨fun t u hu => ?_⟩⟩
   have h0:news.length=0:=by rw[hlen];omega
   rw[List.length_eq_zero_iff.1 h0] at hu
   simp at hu
  ·refine⟨⟨g,j*2,none⟩,by simp[hc],⟨fun t u hu => ?_⟩⟩
   have ht:t<(n-j)*2:=by
    have:=(List.getElem?_eq_some_iff.1 hu).1
    rwa [hlen] at this
   rw[hnews,List.getElem?_drop] at hu
   rw[show(⟨g,j*2,none⟩:Addr).add t=⟨g,j*2+t,none⟩ by unfold Addr.add;simp]
   refine(cell w.drew cur hh _).trans ?_
   rw[hcur _ (by omega)]
   exact hu
 have s1:Aside (news.length=(n-j)*2):=⟨hlen⟩
 have s2:Aside (∀u∈news,u.oneCell'=true):=⟨fun u hu=>by rw[hnews] at hu;exact hone u (List.mem_of_mem_drop hu)⟩
 have s3:Aside (∀t,t<news.length→(w.drew.cell? ⟨g,0+i*2+t,none⟩).isSome=true∧w.drew.frozen? ⟨g,0+i*2+t,none⟩=false):=⟨fun t ht=>by
  rw[hlen] at ht
  refine⟨?_,froz w.drew cur hh _⟩
  rw[cell w.drew cur hh _,Array.getElem?_eq_getElem (by omega)]
  rfl⟩
 obtain⟨W1,hW1⟩:∃W1,W1=w.drew.setCells g (0+i*2) news:=⟨_,rfl⟩
 obtain⟨cur1,hh1,hsz1,hl1⟩:=Qaq (e:=et) news (0+i*2) w.drew cur hh (by rw[hlen];omega)
 rw[←hW1] at hh1
 obtain⟨zs,hzs⟩:∃zs,zs=(Builtin.zeroCells (Value.agg #[(.string ⟨#[]⟩),(.int .i64 0)]).cells (n-(i+(n-j)))).toList:=⟨_,rfl⟩
 have hzl:zs.length=(n-(i+(n-j)))*2:=by rw[hzs];simp[Builtin.zeroCells,Value.cells]
 have hz1:∀v∈zs,v.oneCell'=true:=fun v hv=>by
  rw[hzs] at hv
  simp only[Builtin.zeroCells,Value.cells,Array.toList_map,List.mem_map] at hv
  obtain⟨q,_,rfl⟩:=hv
  rcases Nat.mod_two_eq_zero_or_one q with e|e<;>simp[e]<;>rfl
 have hcl:∀ty,(Builtin.clear_ #[30] ty #[.slice (some ⟨g,(i+(n-j))*2,none⟩) (n-(i+(n-j))) (cap-(i+(n-j)))]).run Tryz.prog W1 = .ok (.tuple #[]) (W1.setCells g ((i+(n-j))*2) zs):=fun ty=>by
  rw[hzs] at hzl hz1 ⊢
  refine run_clear_cells W1 30 49 ty (.agg #[(.string ⟨#[]⟩),(.int .i64 0)]) Tryz.underlying30 ?_ hz1 g _ _ (by omega) (fun q hq => ?_) (fun q hq=>froz W1 cur1 hh1 _)
  ·intro w
   rfl
  ·rw[hzl] at hq
   rw[cell W1 cur1 hh1,Array.getElem?_eq_getElem (by omega)]
   rfl
 have hW:Aside (W1=w.drew.setCells g (0+i*2) news):=⟨hW1⟩
 have hmix:Tryz.prog.follows Departure.mixedOrders=true:=by kernel_rfl
 have hic:i≤cap:=by omega
 have hjc:j≤cap:=by omega
 obtain⟨i0,hi0,hz0,hz2,hz3⟩:=info_parts info49
 refine⟨zs,hzl,?_⟩
 rw[←hnews]
 clear hW1 hh1 hsz1 hl1 hzs hzl hz1 hnews hlen hone hcur cell froz hh hsz hil
 go_enter Tryz.func72,Tryz.ntmps72
 go_wp2_with fail
 go_region_law_o (refine step_append_room rfl (.tmp 22) (.tmp 25) 30 rfl 49 i0 2 Tryz.underlying30 hi0 hz2 g 0 i cap (by simp[Act.eval,Act.put]) A (n-j) (cap-j) news (by simp[Act.eval,Act.put]) s1.out hsrc.out s2.out (by omega) s3.out ?_;rw[←hW.out])
 go_wp2
 go_ret
 exact⟨rfl,by rw[hW.out]⟩
end Del
set_option maxRecDepth 100000 in
set_option maxHeartbeats 2000000 in
theorem Con_delete {rows:List (List T)}{i:Nat}(hi:i<rows.length) (ef:Enter Tryz.prog 72):
  Con Tryz.prog 72 [.ref 620,.t (i64 i),.t (i64 ((i:Int)+1))] [(620,.row 2 rows)] (fun r o=>r = .ref 1600∧o=[(1600,.row 2 (rows.take i++rows.drop (i+1)))]):=by
 refine⟨ef,fun hid σ w us hh hu => ?_⟩
 have o0:=hh.obj 620 _ rfl
 simp only[relAs,relA,i64,rep] at hu
 obtain⟨_,_,rfl,rfl,_,_,rfl,rfl,_,_,rfl,rfl,rfl⟩:=hu
 simp only[relO] at o0
 rcases o0 with⟨h0,_⟩|⟨g,cap,cur,e,hs,hc,hn,hm,hz,hr,hp⟩
 ·subst h0;simp at hi
 have og:own σ (ofO [(620,O.row 2 rows)]) g:=⟨620,rfl,by rw[hs];exact Qah hp⟩
 obtain⟨cs,l1,r1,c1,v1⟩:=Qbs _ _ 0 hr
 have hm':cap≤9223372036854775807:=hm
 have lr:(rows.take i++rows.drop (i+1)).length=i+(rows.length-(i+1)):=by simp;omega
 have rd:∀q,q<rows.length*2→cur[q]? = cs[q]? :=fun q hq=>by
  obtain⟨v,hv⟩:∃v,cs[q]? = some v:=⟨_,List.getElem?_eq_getElem (by omega)⟩
  have:=v1 q v hv
  rw[hv];simpa using this
 have reps:∀C',(view hid (own σ (ofO [(620,O.row 2 rows)])) w).le C'→repRows C' 2 (rows.take i++rows.drop (i+1)) (fun k=>(cs.take (i*2)++cs.drop ((i+1)*2))[k]?) 0:=fun C' hC=>by
  have a1:=Qad hC _ _ _ _ 0 (fun _ _ x=>x) (rr_take i r1)
  have a3:=Qad hC _ _ _ _ 0 (fun _ _ x=>x) (rr_drop (i+1) r1)
  have t1:(cs.take (i*2)).length=(rows.take i).length*2:=by rw[List.length_take,List.length_take,l1];omega
  exact rr_app t1 a1 a3
 rw[hs]
 obtain⟨zs,zl,hcall⟩:=Del.walk g rows.length cap i (i+1) e cur cs w (by omega) (by omega) hn hm' hc hz l1 rd c1
 refine hcall.mono ?_
 rintro ev w' ⟨rfl,rfl⟩
 have ld:(cs.drop ((i+1)*2)).length=(rows.length-(i+1))*2:=by rw[List.length_drop,l1];omega
 obtain⟨cur1,x1,x2,x3⟩:=Qaq (e:=e) (cs.drop ((i+1)*2)) (0+i*2) w.drew cur hc (by rw[ld,hz];omega)
 obtain⟨cur3,y1,y2,y3⟩:=Qaq (e:=e) zs ((i+(rows.length-(i+1)))*2) _ cur1 x1 (by rw[zl,x2,hz];omega)
 obtain⟨s1,s2,s3,s4⟩:=Qao g zs ((i+(rows.length-(i+1)))*2) (w.drew.setCells g (0+i*2) (cs.drop ((i+1)*2)))
 obtain⟨t1,t2,t3,t4⟩:=Qao g (cs.drop ((i+1)*2)) (0+i*2) w.drew
 refine Qd4 (P:=Tryz.prog) (g:=g) (cap:=cap) (e:=e) (cur:=cur3) hh ⟨rfl,rfl⟩ (by rw[lr]) (.inl og) y1 (by rw[lr];omega) hm (by rw[y2,x2];exact hz) hp (fun C' hC=>Qai (reps C' hC) fun k c hk hkc => ?_)
  (by rw[s1,t1];rfl) (by rw[s2,t2];rfl) (by rw[s3,t3];rfl) (by rw[s4,t4];exact Nat.le_refl _) (fun b hb hlt=>by rw[Qat _ _ b hb,Qat _ _ b hb];rfl) rfl
 simp only[Nat.zero_add] at hkc ⊢
 rw[lr] at hk
 rw[y3 k,if_neg (by omega),x3 k,ld]
 by_cases k1:k<i*2
 ·rw[List.getElem?_append_left (by rw[List.length_take,l1];omega),List.getElem?_take,if_pos k1] at hkc
  rw[if_neg (by omega),rd k (by omega)];exact hkc
 ·rw[List.getElem?_append_right (by rw[List.length_take,l1];omega),List.length_take,l1,Nat.min_eq_left (by omega)] at hkc
  rw[if_pos ⟨by omega,by omega⟩,←hkc];congr 1;omega
end Go.Proofs.YtjlkmdmaimednaaGreat.Pure
namespace Go.Proofs.YtjlkmdmaimednaaGreat.Pure
open Go Go.Ab Go.Stable Go.Proofs.YtjlkmdmaimednaaGreat.R
def Ql (b:List zab):Prop:=∀x∈b,1≤x.Qty∧x.Qty≤1125899906842624
theorem add_or (l:List zab) (x:zab):(∃r,addG l x=(r,0))∨(∃e,e≠0∧addG l x=([],e)):=by
 unfold addG
 split
 ·exact .inr ⟨2,by decide,rfl⟩
 ·split
  ·exact .inr ⟨9,by decide,rfl⟩
  ·exact .inl ⟨_,rfl⟩
def plusG:List zab→List zab→List zab×Int
 |a,[]=>(a,0)
 |a,x::b=>if (addG a x).2=0 then plusG (addG a x).1 b else([],(addG a x).2)
theorem plus_ok:∀(b a:List zab),Lk a→Ql b→(plusG a b).2=0→Lk (plusG a b).1
 |[],a,h,_,_=>h
 |x::b,a,h,hq,h0=>by
  unfold plusG at h0 ⊢
  split at h0
  ·rename_i c
   rw[if_pos c]
   exact plus_ok b _ (add_ok h (hq x (by simp)) c) (fun y hy=>hq y (by simp[hy])) h0
  ·rename_i c;exact absurd h0 c
theorem plus_l {b:List zab}(hl:b.length≤1000000) (hq:Ql b){Q0:Int→Prop}{Q1:List zab→Prop}:∀(n i:Nat)(a:List zab),n+i=b.length→Lk a→(∀e,e≠0→plusG a (b.drop i)=([],e)→Q0 e)→(∀r,plusG a (b.drop i)=(r,0)→Q1 r)→zdt_L0 b Q0 Q1 (i:Int) a:=by
 intro n
 induction n with
 |zero=>
  intro i a h ha q0 q1
  refine zdt_l0 ?_
  unfold zdt_w0
  rw[Qab]
  rw[List.drop_of_length_le (by omega)] at q1
  exact Br.neg (by omega) (Lf.i (q1 a rfl))
 |succ n ih=>
  intro i a h ha q0 q1
  have hi:i<b.length:=by omega
  refine zdt_l0 ?_
  unfold zdt_w0
  rw[Qab]
  rw[List.drop_eq_getElem_cons hi] at q0 q1
  have hx:=hq b[i] (List.getElem_mem hi)
  have g:b[(i:Int).toNat]? = some b[i]:=by simp[hi]
  refine Br.pos (by omega) ⟨b[i],Got.i ⟨_,add_r ha hx,Br.i (fun c=>Lf.i (q0 _ c ?_)) (fun c=>Num.n (by omega) ?_)⟩ (by omega) g⟩
  ·unfold plusG;rw[if_neg c]
  ·have c:=Decidable.not_not.1 c
   refine ih (i+1) _ (by omega) (add_ok ha hx c) (fun e he hp=>q0 e he ?_) (fun r hp=>q1 r ?_)
   ·unfold plusG;rw[if_pos c];exact hp
   ·unfold plusG;rw[if_pos c];exact hp
theorem Plus_r {a b:List zab}(ha:Lk a) (hl:b.length≤1000000) (hq:Ql b):zdt_r a b (plusG a b):=by
 refine zdt_of ?_
 unfold zdt_w
 refine⟨_,Clone70_r (by have:=ha.len;omega),plus_l hl hq b.length 0 a (by omega) ha (fun e _ hp=>Rt.i ?_) (fun r hp=>Rt.i ?_)⟩
 ·rw[List.drop_zero] at hp;exact hp.symm
 ·rw[List.drop_zero] at hp;exact hp.symm
theorem rplus_l {b:List zab}(hl:b.length≤1000000) (hq:Ql b){Q0:Int→Prop}{Q1:List zab→Prop}:∀(n i:Nat)(a:List zab),n+i=b.length→Lk a→(∀e,e≠0→plusG a (b.drop i)=([],e)→Q0 e)→(∀r,plusG a (b.drop i)=(r,0)→Q1 r)→zbf_L0 b Q0 Q1 a (i:Int):=by
 intro n
 induction n with
 |zero=>
  intro i a h ha q0 q1
  refine zbf_l0 ?_
  unfold zbf_w0
  rw[Qab]
  rw[List.drop_of_length_le (by omega)] at q1
  exact Br.neg (by omega) (Lf.i (q1 a rfl))
 |succ n ih=>
  intro i a h ha q0 q1
  have hi:i<b.length:=by omega
  refine zbf_l0 ?_
  unfold zbf_w0
  rw[Qab,Qab]
  rw[List.drop_eq_getElem_cons hi] at q0 q1
  have hx:=hq b[i] (List.getElem_mem hi)
  have g:b[(i:Int).toNat]? = some b[i]:=by simp[hi]
  have z:(0:Int)≤(i:Int):=by omega
  have al:=ha.len
  have qb:=Qfh (s:=b[i].ISIN) ha.pos
  have S:=Set_r (a:=a) (s:=b[i].ISIN) (q:=qtyG b[i].ISIN a+b[i].Qty) (by omega)
  rw[beq_false_of_ne (by omega:qtyG b[i].ISIN a+b[i].Qty≠0)] at S
  have over:¬ (qtyG b[i].ISIN a=0∧64≤a.length)→1125899906842624-qtyG b[i].ISIN a<b[i].Qty→Q0 9:=fun c1 c2=>q0 9 (by decide) (by
   have e:addG a b[i]=([],9):=by unfold addG;rw[if_neg c1,if_pos c2]
   unfold plusG;rw[e];rfl)
  have okk:¬ (qtyG b[i].ISIN a=0∧64≤a.length)→¬ 1125899906842624-qtyG b[i].ISIN a<b[i].Qty→zbf_L0 b Q0 Q1 (setG b[i].ISIN (qtyG b[i].ISIN a+b[i].Qty) false a) ((i:Int)+1):=fun c1 c2=>by
   have e:addG a b[i]=(setG b[i].ISIN (qtyG b[i].ISIN a+b[i].Qty) false a,0):=by unfold addG;rw[if_neg c1,if_neg c2]
   have e0:(addG a b[i]).2=0:=by rw[e]
   have hn:=add_ok ha hx e0
   have:=ih (i+1) (addG a b[i]).1 (by omega) hn (fun e he hp=>q0 e he (by unfold plusG;rw[if_pos e0];exact hp)) (fun r hp=>q1 r (by unfold plusG;rw[if_pos e0];exact hp))
   rw[e] at this;exact this
  refine Br.pos (by omega) ⟨b[i],Got.i ⟨_,Qty_r (by omega),Br.i (fun c=>Br.i (fun c2=>Lf.i (q0 2 (by decide) ?_)) (fun c2=>Got.i (Num.n (by omega) (Br.i (fun c3=>Lf.i (over (by omega) (by omega))) (fun c3=>Got.i (Got.i (Num.n (by omega) ⟨_,S,Num.n (by omega) (okk (by omega) (by omega))⟩) z g) z g))) z g))
   (fun c=>Got.i (Num.n (by omega) (Br.i (fun c3=>Lf.i (over (by omega) (by omega))) (fun c3=>Got.i (Got.i (Num.n (by omega) ⟨_,S,Num.n (by omega) (okk (by omega) (by omega))⟩) z g) z g))) z g)⟩ z g⟩
  have e:addG a b[i]=([],2):=by unfold addG;rw[if_pos ⟨c,by omega⟩]
  unfold plusG;rw[e];rfl
theorem RPlus_r {a b:List zab}(ha:Lk a) (hl:b.length≤1000000) (hq:Ql b):zbf_r a b (plusG a b):=by
 refine zbf_of ?_
 unfold zbf_w
 refine rplus_l hl hq b.length 0 a (by omega) ha (fun e _ hp=>Rt.i ?_) (fun r hp=>Rt.i ?_)
 ·rw[List.drop_zero] at hp;exact hp.symm
 ·rw[List.drop_zero] at hp;exact hp.symm
theorem setG_T {s:ByteArray}{q:Int}{B:List zab}:∀{A:List zab},(∀y∈A,y.ISIN≠s)→setG s q true (A++B)=A++setG s q true B
 |[],_=>rfl
 |y::A,h=>by
  simp only[List.cons_append,setG]
  rw[if_neg (h y (by simp)),setG_T fun z hz=>h z (by simp[hz])];rfl
def subG (a:List zab)(x:zab):List zab:=setG x.ISIN (qtyG x.ISIN a-x.Qty) (qtyG x.ISIN a-x.Qty==0) a
def minusG:List zab→List zab→List zab×Int
 |a,[]=>(a,0)
 |a,x::b=>if qtyG x.ISIN a<x.Qty then([],20) else minusG (subG a x) b
theorem sub_cases {a:List zab}{x:zab}(ha:Lk a) (hx:1≤x.Qty∧x.Qty≤1125899906842624) (c:¬ qtyG x.ISIN a<x.Qty):∃A y B,a=A++y::B∧(∀z∈A,sLt z.ISIN x.ISIN)∧(∀z∈y::B,¬ sLt z.ISIN x.ISIN)∧hit x.ISIN (y::B)=true∧y.ISIN=x.ISIN∧qtyG x.ISIN a=y.Qty∧
  subG a x=if y.Qty-x.Qty=0 then A++B else A++⟨x.ISIN,y.Qty-x.Qty⟩::B:=by
 obtain⟨A,B,e,hA,hB,h⟩:=Qcr (x:=x) ha
 rcases h with⟨_,h,_⟩|⟨y,B',rfl,h1,h2,h3,h4⟩
 ·omega
 ·refine⟨A,y,B',e,hA,hB,h1,h2,h3,?_⟩
  unfold subG
  rw[h3]
  have hs:=ha.srt
  rw[e] at hs
  have hz:=gone_B (List.pairwise_append.1 hs).2.1 (hB y (by simp))
  by_cases k:y.Qty-x.Qty=0
  ·rw[if_pos k,k]
   show setG x.ISIN 0 true a=_
   rw[e,setG_T (fun z hz e=>by have:=hA z hz;rw[e] at this;exact Qak _ this)]
   simp only[setG]
   rw[if_pos h2,setG_B hz];rfl
  ·rw[if_neg k,beq_false_of_ne k]
   exact h4 _
theorem sub_ok {a:List zab}{x:zab}(ha:Lk a) (hx:1≤x.Qty∧x.Qty≤1125899906842624) (c:¬ qtyG x.ISIN a<x.Qty):Lk (subG a x):=by
 obtain⟨A,y,B,e,hA,hB,_,h2,h3,h4⟩:=sub_cases ha hx c
 rw[h4]
 have hs:=ha.srt
 rw[e] at hs
 obtain⟨sA,sB,sAB⟩:=List.pairwise_append.1 hs
 have hl:=ha.len
 have hp:=ha.pos
 rw[e] at hl hp
 simp only[List.length_append,List.length_cons] at hl
 have hy:=hp y (by simp)
 split
 ·refine⟨List.pairwise_append.2 ⟨sA,(List.pairwise_cons.1 sB).2,fun z hz w hw=>sAB z hz w (by simp[hw])⟩,fun z hz=>hp z ?_,by simp;omega⟩
  rcases List.mem_append.1 hz with hz|hz<;>simp[hz]
 ·refine⟨List.pairwise_append.2 ⟨sA,List.pairwise_cons.2 ⟨fun w hw => ?_,(List.pairwise_cons.1 sB).2⟩,fun z hz w hw => ?_⟩,fun z hz => ?_,by simp;omega⟩
  ·have:=(List.pairwise_cons.1 sB).1 w hw
   rw[h2] at this;exact this
  ·rcases List.mem_cons.1 hw with rfl|hw
   ·exact hA z hz
   ·exact sAB z hz w (by simp[hw])
  ·rcases List.mem_append.1 hz with hz|hz
   ·exact hp z (by simp[hz])
   ·rcases List.mem_cons.1 hz with rfl|hz
    ·show 1≤y.Qty-x.Qty∧y.Qty-x.Qty≤1125899906842624
     omega
    ·exact hp z (by simp[hz])
theorem minus_or:∀(b a:List zab),(∃r,minusG a b=(r,0))∨minusG a b=([],20)
 |[],a => .inl ⟨a,rfl⟩
 |x::b,a=>by
  unfold minusG
  split
  ·exact .inr rfl
  ·exact minus_or b _
theorem minus_ok:∀(b a:List zab),Lk a→Ql b→(minusG a b).2=0→Lk (minusG a b).1
 |[],a,h,_,_=>h
 |x::b,a,h,hq,h0=>by
  unfold minusG at h0 ⊢
  split at h0
  ·cases h0
  ·rename_i c
   rw[if_neg c]
   exact minus_ok b _ (sub_ok h (hq x (by simp)) c) (fun y hy=>hq y (by simp[hy])) h0
theorem minus_l {b:List zab}(hl:b.length≤1000000) (hq:∀x∈b,1≤x.Qty){Q0:Unit→Prop}{Q1:List zab→Prop}:∀(n i:Nat)(a:List zab),n+i=b.length→Lk a→(minusG a (b.drop i)=([],20)→Q0 ())→(∀r,minusG a (b.drop i)=(r,0)→Q1 r)→zdd_L0 b Q0 Q1 (i:Int) a:=by
 intro n
 induction n with
 |zero=>
  intro i a h ha q0 q1
  refine zdd_l0 ?_
  unfold zdd_w0
  rw[Qab]
  rw[List.drop_of_length_le (by omega)] at q1
  exact Br.neg (by omega) (Lf.i (q1 a rfl))
 |succ n ih=>
  intro i a h ha q0 q1
  have hi:i<b.length:=by omega
  refine zdd_l0 ?_
  unfold zdd_w0
  rw[Qab]
  rw[List.drop_eq_getElem_cons hi] at q0 q1
  have hx1:=hq b[i] (List.getElem_mem hi)
  have al:=ha.len
  have g:b[(i:Int).toNat]? = some b[i]:=by simp[hi]
  obtain⟨A,B,e,hA,hB,hc⟩:=Qcr (x:=b[i]) ha
  have hp:=place_r hA hB (by rw[←e];omega)
  rw[←e] at hp
  refine Br.pos (by omega) ⟨b[i],Got.i ⟨_,hp,?_⟩ (by omega) g⟩
  rcases hc with⟨c1,c2,_⟩|⟨y,B',rfl,c1,c4,c2,_⟩
  ·refine Br.t (by rw[c1];rfl) (Lf.i (q0 ?_))
   unfold minusG;rw[if_pos (by omega)]
  ·have ha2:A.length<a.length:=by rw[e];simp
   have g2:a[((A.length:Nat):Int).toNat]? = some y:=by rw[e];simp
   have i2:((A.length:Nat):Int).toNat<a.length:=by simpa using ha2
   have yq:=ha.pos y (by rw[e];simp)
   refine Br.f (by rw[c1];rfl) (InL.i ⟨y,EltG.i (Br.i (fun c=>Lf.i (q0 ?_)) (fun c=>InL.i (EltG.i (Num.n (by omega) (InL.i (EltS.i ?_ g2) (by omega) i2)) g2) (by omega) i2)) g2⟩ (by omega) i2)
   ·unfold minusG;rw[if_pos (by rw[c2];exact c)]
   ·have c':¬ qtyG b[i].ISIN a<b[i].Qty:=by rw[c2];exact c
    have hx:1≤b[i].Qty∧b[i].Qty≤1125899906842624:=⟨hx1,by omega⟩
    have hsub:subG a b[i]=if y.Qty-b[i].Qty=0 then A++B' else A++⟨b[i].ISIN,y.Qty-b[i].Qty⟩::B':=by
     obtain⟨A2,y2,B2,e2,hA2,hB2,_,k2,k3,k4⟩:=sub_cases ha hx c'
     have hs:=ha.srt
     have:A2=A∧y2::B2=y::B':=by
      have l1:∀(A A2:List zab)(B B2:List zab),A++B=A2++B2→(∀z∈A,sLt z.ISIN b[i].ISIN)→(∀z∈A2,sLt z.ISIN b[i].ISIN)→(∀z∈B,¬ sLt z.ISIN b[i].ISIN)→(∀z∈B2,¬ sLt z.ISIN b[i].ISIN)→A2=A∧B2=B:=by
       intro A
       induction A with
       |nil=>
        intro A2 B B2 e h1 h2 h3 h4
        cases A2 with
        |nil=>exact⟨rfl,e.symm⟩
        |cons z A2=>exact absurd (h2 z (by simp)) (h3 z (by rw[List.nil_append] at e;rw[e];simp))
       |cons w A ih=>
        intro A2 B B2 e h1 h2 h3 h4
        cases A2 with
        |nil=>exact absurd (h1 w (by simp)) (h4 w (by rw[List.nil_append] at e;rw[←e];simp))
        |cons z A2=>
         simp only[List.cons_append,List.cons.injEq] at e
         obtain⟨rfl,e⟩:=e
         obtain⟨r1,r2⟩:=ih A2 B B2 e (fun z hz=>h1 z (by simp[hz])) (fun z hz=>h2 z (by simp[hz])) h3 h4
         exact⟨by rw[r1],r2⟩
      exact l1 A A2 (y::B') (y2::B2) (by rw[←e,←e2]) hA hA2 hB hB2
     obtain⟨rfl,k⟩:=this
     cases k
     exact k4
    have next:zdd_L0 b Q0 Q1 ((i:Int)+1) (subG a b[i]):=ih (i+1) _ (by omega) (sub_ok ha hx c') (fun k=>q0 (by unfold minusG;rw[if_neg c'];exact k)) (fun r k=>q1 r (by unfold minusG;rw[if_neg c'];exact k))
    have es:a.set ((A.length:Nat):Int).toNat ⟨y.ISIN,y.Qty-b[i].Qty⟩=A++⟨b[i].ISIN,y.Qty-b[i].Qty⟩::B':=by
     rw[e,Int.toNat_natCast,List.set_append_right _ _ (Nat.le_refl _),Nat.sub_self,c4];rfl
    rw[es]
    have g3:(A++(⟨b[i].ISIN,y.Qty-b[i].Qty⟩:zab)::B')[((A.length:Nat):Int).toNat]? = some ⟨b[i].ISIN,y.Qty-b[i].Qty⟩:=by simp
    have i3:((A.length:Nat):Int).toNat<(A++(⟨b[i].ISIN,y.Qty-b[i].Qty⟩:zab)::B').length:=by simp
    refine InL.i ⟨_,EltG.i (Br.i (fun k=>Num.n (by omega) ⟨A++B',?_,Num.n (by omega) ?_⟩) (fun k=>Num.n (by omega) ?_)) g3⟩ (by omega) i3
    ·have:=Con_delete (rows:=(A++(⟨b[i].ISIN,y.Qty-b[i].Qty⟩:zab)::B').map zab.enc) (i:=A.length) (by simp) (enters_of Tryz.func72 (by kernel_rfl) rfl)
     unfold DelR
     rw[show((A++B').map zab.enc)=((A++(⟨b[i].ISIN,y.Qty-b[i].Qty⟩:zab)::B').map zab.enc).take A.length++((A++(⟨b[i].ISIN,y.Qty-b[i].Qty⟩:zab)::B').map zab.enc).drop (A.length+1) by rw[←List.map_take,←List.map_drop,←List.map_append];congr 1;rw[List.take_left,←List.drop_drop];simp]
     exact this
    ·rw[hsub,if_pos k] at next;exact next
    ·rw[hsub,if_neg k] at next;exact next
theorem Minus_r {a b:List zab}(ha:Lk a) (hl:b.length≤1000000) (hq:∀x∈b,1≤x.Qty):zdd_r a b (minusG a b):=by
 refine zdd_of ?_
 unfold zdd_w
 refine⟨_,Clone70_r (by have:=ha.len;omega),minus_l hl hq b.length 0 a (by omega) ha (fun hp=>Rt.i ?_) (fun r hp=>Rt.i ?_)⟩
 ·rw[List.drop_zero] at hp;exact hp.symm
 ·rw[List.drop_zero] at hp;exact hp.symm
theorem rminus_l {b:List zab}(hl:b.length≤1000000) (hq:∀x∈b,1≤x.Qty){Q0:Unit→Prop}{Q1:List zab→Prop}:∀(n i:Nat)(a:List zab),n+i=b.length→Lk a→(minusG a (b.drop i)=([],20)→Q0 ())→(∀r,minusG a (b.drop i)=(r,0)→Q1 r)→zby_L0 b Q0 Q1 a (i:Int):=by
 intro n
 induction n with
 |zero=>
  intro i a h ha q0 q1
  refine zby_l0 ?_
  unfold zby_w0
  rw[Qab]
  rw[List.drop_of_length_le (by omega)] at q1
  exact Br.neg (by omega) (Lf.i (q1 a rfl))
 |succ n ih=>
  intro i a h ha q0 q1
  have hi:i<b.length:=by omega
  refine zby_l0 ?_
  unfold zby_w0
  rw[Qab]
  rw[List.drop_eq_getElem_cons hi] at q0 q1
  have hx1:=hq b[i] (List.getElem_mem hi)
  have al:=ha.len
  have qb:=Qfh (s:=b[i].ISIN) ha.pos
  have g:b[(i:Int).toNat]? = some b[i]:=by simp[hi]
  have z:(0:Int)≤(i:Int):=by omega
  refine Br.pos (by omega) ⟨b[i],Got.i ⟨_,Qty_r (by omega),Got.i (Br.i (fun c=>Lf.i (q0 ?_)) (fun c=>Got.i (Got.i (Num.n (by omega) ⟨_,Set_r (by omega),Num.n (by omega) (ih (i+1) _ (by omega) (sub_ok ha ⟨hx1,by omega⟩ c) (fun k=>q0 ?_) (fun r k=>q1 r ?_))⟩) z g) z g)) z g⟩ z g⟩
  ·unfold minusG;rw[if_pos c]
  ·unfold minusG;rw[if_neg c];exact k
  ·unfold minusG;rw[if_neg c];exact k
theorem RMinus_r {a b:List zab}(ha:Lk a) (hl:b.length≤1000000) (hq:∀x∈b,1≤x.Qty):zby_r a b (minusG a b):=by
 refine zby_of ?_
 unfold zby_w
 refine rminus_l hl hq b.length 0 a (by omega) ha (fun hp=>Rt.i ?_) (fun r hp=>Rt.i ?_)
 ·rw[List.drop_zero] at hp;exact hp.symm
 ·rw[List.drop_zero] at hp;exact hp.symm
def bothG (b:List zab):List zab→List zab
 |[]=>[]
 |x::a=>if 0<min x.Qty (qtyG x.ISIN b) then ⟨x.ISIN,min x.Qty (qtyG x.ISIN b)⟩::bothG b a else bothG b a
theorem LQty_r {a:List zab}(ha:Lk a) (s:ByteArray):zgq_r a s (qtyG s a):=by
 refine zgq_of ?_
 unfold zgq_w
 have al:=ha.len
 obtain⟨A,B,e,hA,hB,hc⟩:=Qcr (x:=⟨s,1⟩) ha
 have hp:=place_r hA hB (by rw[←e];omega)
 rw[←e] at hp
 refine⟨_,hp,?_⟩
 rcases hc with⟨c1,c2,_⟩|⟨y,B',rfl,c1,c4,c2,_⟩
 ·exact Br.t (by rw[c1];rfl) (Rt.i c2.symm)
 ·have g2:a[((A.length:Nat):Int).toNat]? = some y:=by rw[e];simp
  exact Br.f (by rw[c1];rfl) ⟨y,Got.i (Rt.i c2.symm) (by omega) g2⟩
theorem both_l {a b:List zab}(hl:a.length≤1000000) (hb:Lk b){Q:List zab→Prop}:∀(n i:Nat)(acc:List zab),n+i=a.length→acc.length≤i→Q (acc++bothG b (a.drop i))→zeq_L0 b a Q (i:Int) acc:=by
 intro n
 induction n with
 |zero=>
  intro i acc h hc q
  refine zeq_l0 ?_
  unfold zeq_w0
  rw[Qab]
  rw[List.drop_of_length_le (by omega)] at q
  exact Br.neg (by omega) (Lf.i (by simpa[bothG] using q))
 |succ n ih=>
  intro i acc h hc q
  have hi:i<a.length:=by omega
  refine zeq_l0 ?_
  unfold zeq_w0
  rw[Qab]
  rw[List.drop_eq_getElem_cons hi,bothG] at q
  have g:a[(i:Int).toNat]? = some a[i]:=by simp[hi]
  refine Br.pos (by omega) ⟨a[i],Got.i ⟨_,LQty_r hb _,Br.i (fun c=>App2.i (app24 (by simp;omega)) (Num.n (by omega) (ih (i+1) _ (by omega) (by simp;omega) ?_))) (fun c=>Num.n (by omega) (ih (i+1) _ (by omega) (by omega) ?_))⟩ (by omega) g⟩
  ·rw[if_pos c] at q;rw[List.append_assoc];exact q
  ·rw[if_neg c] at q;exact q
theorem Both_r {a b:List zab}(hl:a.length≤1000000) (hb:Lk b):zeq_r a b (bothG b a):=by
 refine zeq_of ?_
 unfold zeq_w
 exact both_l hl hb a.length 0 [] (by omega) (by simp) (Rt.i (by simp))
def chkG:Option zab→Nat→List zab→Int×Int
 |_,i,[]=>(i,0)
 |p,i,x::l=>if ¬ (1≤x.Qty∧x.Qty≤1125899906842624) then(i,1) else match p with
  |none=>chkG (some x) (i+1) l
  |some y=>if ¬ sLt y.ISIN x.ISIN then(i,7) else chkG (some x) (i+1) l
theorem Qei (p:Option zab) (i:Nat) (x:zab) (l:List zab):chkG p i (x::l)=if ¬ (1≤x.Qty∧x.Qty≤1125899906842624) then((i:Int),1) else match p with
  |none=>chkG (some x) (i+1) l
  |some y=>if ¬ sLt y.ISIN x.ISIN then((i:Int),7) else chkG (some x) (i+1) l:=by cases p<;>rfl
def checkG (l:List zab):Int×Int:=if (64:Int)<l.length then(0,2) else chkG none 0 l
def Pre (a:List zab)(i:Nat)(p:Option zab):Prop:=i=0∧p=none∨0<i∧∃y,p=some y∧a[i-1]? = some y
theorem chk_l {a:List zab}(hl:a.length≤1000000){P:Int×Int→Prop}{Q0:Int×Int→Prop}{Q1:Unit→Prop}(q0:∀v,v.2≠0→P v→Q0 v) (q1:P ((a.length:Nat),0)→Q1 ()):∀(n i:Nat)(p:Option zab),n+i=a.length→Pre a i p→P (chkG p i (a.drop i))→zdb_L0 a Q0 Q1 (i:Int):=by
 intro n
 induction n with
 |zero=>
  intro i p h hp q
  refine zdb_l0 ?_
  unfold zdb_w0
  rw[Qab]
  rw[List.drop_of_length_le (by omega)] at q
  refine Br.neg (by omega) (Lf.i (q1 ?_))
  have e:i=a.length:=by omega
  subst e
  cases p<;>exact q
 |succ n ih=>
  intro i p h hp q
  have hi:i<a.length:=by omega
  refine zdb_l0 ?_
  unfold zdb_w0
  rw[Qab]
  rw[List.drop_eq_getElem_cons hi,Qei] at q
  have g:a[(i:Int).toNat]? = some a[i]:=by simp[hi]
  have hn:Pre a (i+1) (some a[i]) := .inr ⟨by omega,_,rfl,by rw[Nat.add_sub_cancel];exact List.getElem?_eq_getElem hi⟩
  refine Br.pos (by omega) ⟨a[i],Got.i (Br.i (fun c=>Lf.i (q0 (_,_) (fun k=>by cases k) ?_)) (fun c=>Br.i (fun c2=>Lf.i (q0 (_,_) (fun k=>by cases k) ?_)) (fun c2 => ?_))) (by omega) g⟩
  ·rw[if_pos (by omega)] at q;exact q
  ·rw[if_pos (by omega)] at q;exact q
  ·rw[if_neg (by omega)] at q
   rcases hp with⟨rfl,rfl⟩|⟨h0,y,rfl,hy⟩
   ·exact Br.neg (by omega) (Num.n (by omega) (ih 1 _ (by omega) hn q))
   ·have g2:a[((i:Int)-1).toNat]? = some y:=by rw[show((i:Int)-1).toNat=i-1 by omega];exact hy
    have q:P (if ¬ sLt y.ISIN a[i].ISIN then((i:Int),7) else chkG (some a[i]) (i+1) (a.drop (i+1))):=q
    refine Br.pos (by omega) (Num.n (by omega) ⟨y,Got.i ?_ (by omega) g2⟩)
    rw[strLe_s]
    refine Br.i (fun c=>Lf.i (q0 (_,_) (fun k=>by cases k) ?_)) (fun c=>Num.n (by omega) (ih (i+1) _ (by omega) hn ?_))
    ·rw[if_pos c] at q;exact q
    ·rw[if_neg c] at q;exact q
theorem Qej {a:List zab}(hl:a.length≤1000000):zdb_r a (checkG a):=by
 refine zdb_of ?_
 unfold zdb_w checkG
 rw[Qab]
 refine Br.i (fun c=>Rt.i (by rw[if_pos c])) (fun c => ?_)
 rw[if_neg c]
 exact chk_l hl (P:=fun v=>v=chkG none 0 a) (fun v _ hv=>Rt.i hv) (fun hv=>Rt.i hv) a.length 0 none (by omega) (.inl ⟨rfl,rfl⟩) (by rw[List.drop_zero])
theorem rchk_l {a:List zab}(hl:a.length≤1000000){P:Int×Int→Prop}{Q0:Int×Int→Prop}{Q1:Unit→Prop}(q0:∀v,v.2≠0→P v→Q0 v) (q1:P ((a.length:Nat),0)→Q1 ()):∀(n i:Nat)(p:Option zab),n+i=a.length→Pre a i p→P (chkG p i (a.drop i))→zbt_L0 a Q0 Q1 (i:Int):=by
 intro n
 induction n with
 |zero=>
  intro i p h hp q
  refine zbt_l0 ?_
  unfold zbt_w0
  rw[Qab]
  rw[List.drop_of_length_le (by omega)] at q
  refine Br.neg (by omega) (Lf.i (q1 ?_))
  have e:i=a.length:=by omega
  subst e
  cases p<;>exact q
 |succ n ih=>
  intro i p h hp q
  have hi:i<a.length:=by omega
  refine zbt_l0 ?_
  unfold zbt_w0
  rw[Qab]
  rw[List.drop_eq_getElem_cons hi,Qei] at q
  have g:a[(i:Int).toNat]? = some a[i]:=by simp[hi]
  have hn:Pre a (i+1) (some a[i]) := .inr ⟨by omega,_,rfl,by rw[Nat.add_sub_cancel];exact List.getElem?_eq_getElem hi⟩
  have hg:zdz_r a[i].Qty (decide (1≤a[i].Qty∧a[i].Qty≤1125899906842624)):=by
   refine zdz_of ?_
   unfold zdz_w
   refine Br.i (fun c=>Rt.i (decide_eq_decide.2 ⟨fun k=>⟨by omega,k⟩,fun k=>k.2⟩)) (fun c=>Rt.i (decide_eq_false (fun k=>c (by omega))).symm)
  refine Br.pos (by omega) ⟨a[i],Got.i ⟨_,hg,Br.i (fun c=>Lf.i (q0 (_,_) (fun k=>by cases k) ?_)) (fun c => ?_)⟩ (by omega) g⟩
  ·rw[if_pos c] at q;exact q
  ·rw[if_neg c] at q
   rcases hp with⟨rfl,rfl⟩|⟨h0,y,rfl,hy⟩
   ·exact Br.neg (by omega) (Num.n (by omega) (ih 1 _ (by omega) hn q))
   ·have g2:a[((i:Int)-1).toNat]? = some y:=by rw[show((i:Int)-1).toNat=i-1 by omega];exact hy
    have q:P (if ¬ sLt y.ISIN a[i].ISIN then((i:Int),7) else chkG (some a[i]) (i+1) (a.drop (i+1))):=q
    refine Br.pos (by omega) (Num.n (by omega) ⟨y,Got.i (Got.i ?_ (by omega) g) (by omega) g2⟩)
    rw[strLt_s]
    refine Br.i (fun c=>Lf.i (q0 (_,_) (fun k=>by cases k) ?_)) (fun c=>Num.n (by omega) (ih (i+1) _ (by omega) hn ?_))
    ·rw[if_pos c] at q;exact q
    ·rw[if_neg c] at q;exact q
theorem RCheck17_r {a:List zab}(hl:a.length≤1000000):zbt_r a (checkG a):=by
 refine zbt_of ?_
 unfold zbt_w checkG
 rw[Qab]
 refine Br.i (fun c=>Rt.i (by rw[if_pos c])) (fun c => ?_)
 rw[if_neg c]
 exact rchk_l hl (P:=fun v=>v=chkG none 0 a) (fun v _ hv=>Rt.i hv) (fun hv=>Rt.i hv) a.length 0 none (by omega) (.inl ⟨rfl,rfl⟩) (by rw[List.drop_zero])
theorem chk_ok:∀(l:List zab)(p:Option zab)(i:Nat),(chkG p i l).2=0→l.Pairwise (fun x y=>sLt x.ISIN y.ISIN)∧(∀x∈l,1≤x.Qty∧x.Qty≤1125899906842624)∧∀y,p=some y→∀x∈l,sLt y.ISIN x.ISIN
 |[],_,_,_=>⟨List.Pairwise.nil,by simp,by simp⟩
 |x::l,p,i,h=>by
  rw[Qei] at h
  by_cases c:1≤x.Qty∧x.Qty≤1125899906842624
  ·rw[if_neg (fun k=>k c)] at h
   have key:(chkG (some x) (i+1) l).2=0∧∀y,p=some y→sLt y.ISIN x.ISIN:=by
    cases p with
    |none=>exact⟨h,fun y hy=>by cases hy⟩
    |some y=>
     have h:(if ¬ sLt y.ISIN x.ISIN then((i:Int),(7:Int)) else chkG (some x) (i+1) l).2=0:=h
     by_cases k:sLt y.ISIN x.ISIN
     ·rw[if_neg (fun q=>q k)] at h;exact⟨h,fun z hz=>by cases hz;exact k⟩
     ·rw[if_pos k] at h;cases h
   obtain⟨k1,k2,k3⟩:=chk_ok l (some x) (i+1) key.1
   refine⟨List.pairwise_cons.2 ⟨fun z hz=>k3 x rfl z hz,k1⟩,fun z hz => ?_,fun y hy z hz => ?_⟩
   ·rcases List.mem_cons.1 hz with rfl|hz
    ·exact c
    ·exact k2 z hz
   ·rcases List.mem_cons.1 hz with rfl|hz
    ·exact key.2 y hy
    ·exact Qcx (key.2 y hy) (k3 x rfl z hz)
  ·rw[if_pos c] at h;cases h
theorem Qb1 {l:List zab}(h:(checkG l).2=0):Lk l:=by
 unfold checkG at h
 by_cases c:(64:Int)<l.length
 ·rw[if_pos c] at h;cases h
 ·rw[if_neg c] at h
  obtain⟨h1,h2,_⟩:=chk_ok l none 0 h
  exact⟨h1,h2,by omega⟩
theorem Qgf {x:zab}:∀{l:List zab},l.Pairwise (fun x y=>sLt x.ISIN y.ISIN)→x∈l→qtyG x.ISIN l=x.Qty
 |[],_,h=>by cases h
 |y::l,hs,h=>by
  simp only[qtyG]
  rcases List.mem_cons.1 h with rfl|h
  ·rw[if_pos rfl]
  ·have:=(List.pairwise_cons.1 hs).1 x h
   rw[if_neg (fun e=>by rw[e] at this;exact Qak _ this)]
   exact Qgf (List.pairwise_cons.1 hs).2 h
theorem qtyG_app {s:ByteArray}{B:List zab}:∀{A:List zab},(∀y∈A,y.ISIN≠s)→qtyG s (A++B)=qtyG s B
 |[],_=>rfl
 |y::A,h=>by
  simp only[List.cons_append,qtyG]
  rw[if_neg (h y (by simp))];exact qtyG_app fun z hz=>h z (by simp[hz])
theorem qtyG_mid {s t:ByteArray}{q r:Int}{B:List zab}(hs:s≠t):∀{A:List zab},qtyG s (A++⟨t,q⟩::B)=qtyG s (A++B)
 |[]=>by simp only[List.nil_append,qtyG];rw[if_neg (fun e=>hs e.symm)]
 |y::A=>by simp only[List.cons_append,qtyG];rw[qtyG_mid (r:=r) hs]
theorem qtyG_sub {a:List zab}{x:zab}(ha:Lk a) (hx:1≤x.Qty∧x.Qty≤1125899906842624) (c:¬ qtyG x.ISIN a<x.Qty) (s:ByteArray):qtyG s (subG a x)=qtyG s a-(if x.ISIN=s then x.Qty else 0):=by
 obtain⟨A,y,B,e,hA,hB,_,h2,h3,h4⟩:=sub_cases ha hx c
 have hs:=ha.srt
 rw[e] at hs
 have hz:=gone_B (List.pairwise_append.1 hs).2.1 (hB y (by simp))
 have hA':∀z∈A,z.ISIN≠x.ISIN:=fun z hz e=>by have:=hA z hz;rw[e] at this;exact Qak _ this
 rw[h4]
 by_cases k:x.ISIN=s
 ·subst k
  rw[if_pos rfl,h3]
  by_cases z:y.Qty-x.Qty=0
  ·rw[if_pos z,qtyG_app hA',Qc0 hz,z]
  ·rw[if_neg z,qtyG_app hA'];simp[qtyG]
 ·rw[if_neg k,Int.sub_zero]
  have e1:qtyG s a=qtyG s (A++B):=by
   rw[e]
   have:=qtyG_mid (q:=y.Qty) (r:=0) (B:=B) (fun e=>k e.symm:s≠x.ISIN) (A:=A)
   rw[←this]
   have ey:y=⟨x.ISIN,y.Qty⟩:=by rw[←h2]
   rw[←ey]
  rw[e1]
  by_cases z:y.Qty-x.Qty=0
  ·rw[if_pos z]
  ·rw[if_neg z];exact qtyG_mid (r:=0) (fun e=>k e.symm)
theorem minus_qty:∀(b a:List zab),Lk a→Ql b→b.Pairwise (fun x y=>sLt x.ISIN y.ISIN)→(∀s,qtyG s b≤qtyG s a)→(minusG a b).2=0∧∀s,qtyG s (minusG a b).1=qtyG s a-qtyG s b
 |[],a,_,_,_,_=>⟨rfl,fun s=>by show qtyG s a=_;simp[qtyG]⟩
 |x::b,a,ha,hq,hs,hle=>by
  have hx:=hq x (by simp)
  have c:¬ qtyG x.ISIN a<x.Qty:=by
   have:=hle x.ISIN
   simp only[qtyG] at this
   rw[if_pos trivial] at this
   omega
  obtain⟨h1,h2⟩:=List.pairwise_cons.1 hs
  have nx:qtyG x.ISIN b=0:=Qc0 fun y hy e=>by have:=h1 y hy;rw[e] at this;exact Qak _ this
  have hle2:∀s,qtyG s b≤qtyG s (subG a x):=fun s=>by
   rw[qtyG_sub ha hx c]
   by_cases k:x.ISIN=s
   ·subst k;rw[if_pos rfl,nx];omega
   ·rw[if_neg k]
    have:=hle s
    simp only[qtyG] at this
    rw[if_neg k] at this
    omega
  obtain⟨r1,r2⟩:=minus_qty b (subG a x) (sub_ok ha hx c) (fun y hy=>hq y (by simp[hy])) h2 hle2
  unfold minusG
  rw[if_neg c]
  refine⟨r1,fun s => ?_⟩
  rw[r2,qtyG_sub ha hx c]
  simp only[qtyG]
  by_cases k:x.ISIN=s
  ·subst k;rw[if_pos rfl,if_pos rfl,nx];omega
  ·rw[if_neg k,if_neg k];omega
end Go.Proofs.YtjlkmdmaimednaaGreat.Pure
namespace Go.Proofs.YtjlkmdmaimednaaGreat.Pure
open Go Go.Ab Go.Stable Go.Proofs.YtjlkmdmaimednaaGreat.R
section
variable (r:List KN) (b:zat) (day:Int)
def itemsG:List zab→List HI×Int
 |[]=>([],0)
 |x::l=>if (itemS r b x day).2≠0 then([],(itemS r b x day).2) else if whyS b (itemS r b x day).1.Asset day≠0 then([],23) else if (itemsG l).2≠0 then([],(itemsG l).2) else((itemS r b x day).1::(itemsG l).1,0)
end
section
variable {r:List KN} {b:zat} {day:Int}
theorem itemsG_1 {x:zab}(l:List zab) (h:(itemS r b x day).2≠0):itemsG r b day (x::l)=([],(itemS r b x day).2):=by unfold itemsG;rw[if_pos h]
theorem itemsG_2 {x:zab}(l:List zab) (h:¬ (itemS r b x day).2≠0) (k:whyS b (itemS r b x day).1.Asset day≠0):itemsG r b day (x::l)=([],23):=by unfold itemsG;rw[if_neg h,if_pos k]
theorem itemsG_3 {x:zab}{l:List zab}(h:¬ (itemS r b x day).2≠0) (k:¬ whyS b (itemS r b x day).1.Asset day≠0){e:Int}(he:e≠0) (m:itemsG r b day l=([],e)):itemsG r b day (x::l)=([],e):=by unfold itemsG;rw[if_neg h,if_neg k,m];exact if_pos he
theorem itemsG_4 {x:zab}{l:List zab}(h:¬ (itemS r b x day).2≠0) (k:¬ whyS b (itemS r b x day).1.Asset day≠0){o:List HI}(m:itemsG r b day l=(o,0)):itemsG r b day (x::l)=((itemS r b x day).1::o,0):=by unfold itemsG;rw[if_neg h,if_neg k,m];exact if_neg (fun c=>c rfl)
theorem itemsG_mem:∀{l:List zab}{z:HI},z∈(itemsG r b day l).1→∃x∈l,(itemS r b x day).2=0∧z=(itemS r b x day).1
 |x::l,z,hz=>by
  unfold itemsG at hz
  split at hz
  ·exact absurd hz (by simp)
  rename_i h
  split at hz
  ·exact absurd hz (by simp)
  split at hz
  ·exact absurd hz (by simp)
  rcases List.mem_cons.1 hz with rfl|hz
  ·exact⟨x,by simp,Decidable.not_not.1 h,rfl⟩
  ·obtain⟨y,hy,k⟩:=itemsG_mem hz
   exact⟨y,by simp[hy],k⟩
theorem asset_sz {a:zaf}(h:assetS a=0):a.ISIN.size≤12:=by
 unfold assetS at h
 split at h
 ·rename_i k;exact absurd h k
 ·rename_i k
  have k:=Decidable.not_not.1 k
  unfold checkS at k
  split at k
  ·cases k
  ·omega
theorem item_key (h:Fine r){x:zab}(e:(itemS r b x day).2=0):InK .i64 (itemS r b x day).1.Asset.Issuer∧(itemS r b x day).1.Asset.ISIN.size≤maxLen:=by
 unfold itemS at e ⊢
 cases k:lk x.ISIN r with
 |none=>rw[k] at e;cases e
 |some y=>
  rw[k] at e
  have ok:=Qgo (h.2.2 y (lk_mem k))
  have sz:=asset_sz (h.2.2 y (lk_mem k))
  have z:InK .i64 zI.Asset.Issuer∧zI.Asset.ISIN.size≤maxLen:=⟨⟨by decide,by decide⟩,Nat.zero_le _⟩
  show InK .i64 (if y.Price=0 then(zI,(31:Int)) else _).1.Asset.Issuer∧(if y.Price=0 then(zI,(31:Int)) else _).1.Asset.ISIN.size≤maxLen
  split
  ·exact z
  ·split
   ·exact z
   ·split
    ·exact z
    ·split
     ·exact z
     ·exact⟨⟨by show -9223372036854775808≤y.A.Issuer;omega,by show y.A.Issuer≤9223372036854775807;omega⟩,by show y.A.ISIN.size≤maxLen;unfold maxLen;omega⟩
theorem items_key (h:Fine r) (l:List zab):KeyOk2 ((itemsG r b day l).1.map toR):=by
 intro z hz
 obtain⟨y,hy,rfl⟩:=List.mem_map.1 hz
 obtain⟨x,_,e,rfl⟩:=itemsG_mem hy
 exact item_key h e
end
theorem items_l {r:List KN}(h:Fine r){c:zdh}(hb:Rules c.Basket){l:List zab}(hl:l.length≤1000){Q0:Int→Prop}{Q1:List HI→Prop}:∀(n i:Nat)(acc:List HI),n+i=l.length→acc.length≤i→(∀e,e≠0→itemsG r c.Basket c.Day (l.drop i)=([],e)→Q0 e)→(∀o,itemsG r c.Basket c.Day (l.drop i)=(o,0)→Q1 (acc++o))→zcz_L0 l c (bk r) Q0 Q1 (i:Int) acc:=by
 intro n
 induction n with
 |zero=>
  intro i acc hn ha q0 q1
  refine zcz_l0 ?_
  unfold zcz_w0
  rw[Qab]
  rw[List.drop_of_length_le (by omega)] at q1
  exact Br.neg (by omega) (Lf.i (by have:=q1 [] rfl;rwa [List.append_nil] at this))
 |succ n ih=>
  intro i acc hn ha q0 q1
  have hi:i<l.length:=by omega
  refine zcz_l0 ?_
  unfold zcz_w0
  rw[Qab]
  rw[List.drop_eq_getElem_cons hi] at q0 q1
  have g:l[(i:Int).toNat]? = some l[i]:=by simp[hi]
  refine Br.pos (by omega) ⟨l[i],Got.i ⟨_,Find_r h (by have:=hb.cuts;omega) _ _,?_⟩ (by omega) g⟩
  refine Br.i (fun c1=>Lf.i (q0 _ c1 (itemsG_1 _ c1))) (fun c1=>⟨_,Fits_r hb (item_ok h (Decidable.not_not.1 c1)),Br.i (fun c2=>Lf.i (q0 23 (by decide) (itemsG_2 _ c1 c2))) (fun c2=>App2.i (app96 (by simp;omega)) (Num.n (by omega) (ih (i+1) _ (by omega) (by simp;omega) (fun e he k=>q0 e he (itemsG_3 c1 c2 he k)) (fun o k => ?_))))⟩)
  have:=q1 _ (itemsG_4 c1 c2 k)
  rwa [List.append_assoc,List.singleton_append]
theorem Items_r {r:List KN}(h:Fine r){c:zdh}(hb:Rules c.Basket){l:List zab}(hl:l.length≤1000):zcz_r (bk r) c l (itemsG r c.Basket c.Day l):=by
 refine zcz_of ?_
 unfold zcz_w
 rw[Qab]
 refine Mk0.i ⟨by omega,by have:(((l.length:Nat):Int)).toNat=l.length:=rfl;omega,by have:(((l.length:Nat):Int)).toNat=l.length:=rfl;unfold maxLen;omega⟩ (items_l h hb hl l.length 0 [] (by omega) (by simp) (fun e he k=>Rt.i ?_) (fun o k=>Rt.i ?_))
 ·rw[List.drop_zero] at k;exact k.symm
 ·rw[List.drop_zero] at k;exact k.symm
theorem ritems_l {r:List KN}(h:Fine r){c:zbg}(hb:Rules c.Basket){l:List zab}(hl:l.length≤1000){Q0:Int→Prop}{Q1:List RI→Prop}:∀(n i:Nat)(acc:List RI),n+i=l.length→acc.length≤i→(∀e,e≠0→itemsG r c.Basket c.Day (l.drop i)=([],e)→Q0 e)→(∀o,itemsG r c.Basket c.Day (l.drop i)=(o,0)→Q1 (acc++o.map toR))→zbv_L0 r l c Q0 Q1 (i:Int) acc:=by
 intro n
 induction n with
 |zero=>
  intro i acc hn ha q0 q1
  refine zbv_l0 ?_
  unfold zbv_w0
  rw[Qab]
  rw[List.drop_of_length_le (by omega)] at q1
  exact Br.neg (by omega) (Lf.i (by have:=q1 [] rfl;rwa [List.map_nil,List.append_nil] at this))
 |succ n ih=>
  intro i acc hn ha q0 q1
  have hi:i<l.length:=by omega
  refine zbv_l0 ?_
  unfold zbv_w0
  rw[Qab]
  rw[List.drop_eq_getElem_cons hi] at q0 q1
  have g:l[(i:Int).toNat]? = some l[i]:=by simp[hi]
  refine Br.pos (by omega) ⟨l[i],Got.i ⟨_,RFind_r h (by have:=hb.cuts;omega) _ _,?_⟩ (by omega) g⟩
  refine Br.i (fun c1=>Lf.i (q0 _ c1 (itemsG_1 _ c1))) (fun c1=>⟨_,RWhy_r hb (item_ok h (Decidable.not_not.1 c1)),Br.i (fun c2=>Lf.i (q0 23 (by decide) (itemsG_2 _ c1 c2))) (fun c2=>App2.i (app96 (by simp;omega)) (Num.n (by omega) (ih (i+1) _ (by omega) (by simp;omega) (fun e he k=>q0 e he (itemsG_3 c1 c2 he k)) (fun o k => ?_))))⟩)
  have:=q1 _ (itemsG_4 c1 c2 k)
  rw[List.map_cons] at this
  rwa [List.append_assoc,List.singleton_append]
theorem RItems_r {r:List KN}(h:Fine r){c:zbg}(hb:Rules c.Basket){l:List zab}(hl:l.length≤1000):zbv_r r c l ((itemsG r c.Basket c.Day l).1.map toR,(itemsG r c.Basket c.Day l).2):=by
 refine zbv_of ?_
 unfold zbv_w
 refine ritems_l h hb hl l.length 0 [] (by omega) (by simp) (fun e he k=>Rt.i ?_) (fun o k=>Rt.i ?_)
 ·rw[List.drop_zero] at k;rw[k];rfl
 ·rw[List.drop_zero] at k;rw[k];rfl
def toS (c:zbg):zdh:=⟨c.Basket,c.Need,c.Have,c.Day⟩
abbrev itsG (r:List KN) (c:zbg) (l:List zab):List HI×Int:=itemsG r c.Basket c.Day l
abbrev goodC (r:List KN) (c:zbg) (l:List zab):Int:=goodG c.Basket ((itsG r c l).1.map toR) c.Need
def stateG (r:List KN)(c:zbg):Int:=if (checkG c.Have).2≠0 then(checkG c.Have).2 else if (itsG r c c.Have).2≠0 then(itsG r c c.Have).2 else goodC r c c.Have
theorem goodC_r {r:List KN}(h:Fine r){c:zbg}(hN:InK .i64 c.Need) (l:List zab):zfx_r c.Basket (itsG r c l).1 c.Need (goodC r c l):=by
 have:=Good_r (b:=c.Basket) (l:=(itsG r c l).1.map toR) (need:=c.Need) (items_key h l) hN
 rwa [Qcc] at this
theorem RState_r {r:List KN}(h:Fine r){c:zbg}(hb:Rules c.Basket) (hl:c.Have.length≤1000):zeh_r r c (stateG r c):=by
 refine zeh_of ?_
 unfold zeh_w stateG
 exact⟨_,RCheck17_r (by omega),Br.i (fun c1=>Rt.i (if_pos c1).symm) (fun c1=>⟨_,RItems_r h hb hl,Br.i (fun c2=>Rt.i (by rw[if_neg c1];exact(if_pos c2).symm)) (fun c2=>⟨_,RGood_r (items_key h c.Have),Rt.i (by rw[if_neg c1];exact(if_neg c2).symm)⟩)⟩)⟩
theorem minus1_ok {a:List zab}{x:zab}(ha:Lk a) (hx:1≤x.Qty) (h:¬ (minusG a [x]).2≠0):Lk (minusG a [x]).1:=by
 have qb:=Qfh (s:=x.ISIN) ha.pos
 unfold minusG at h ⊢
 split at h
 ·exact absurd (by decide) h
 ·rename_i k
  rw[if_neg k]
  exact sub_ok ha ⟨hx,by omega⟩ k
theorem ql_lk {l:List zab}(h:Lk l):Ql l:=h.pos
theorem Qes {l:List zab}(h:¬ (mergeG [] l).2≠0):Lk (mergeG [] l).1:=by
 have e:mergeG [] l=((mergeG [] l).1,0):=by rw[←Decidable.not_not.1 h]
 exact(Qdx ByteArray.empty l [] _ Lk_nil e).2
def nowG (c:zbg)(x:zab)(ins:List zab):List zab×Int:=plusG (minusG c.Have [x]).1 (mergeG [] ins).1
def swapG (r:List KN)(c:zbg)(x:zab)(ins:List zab):List zab×Int:=
 if (checkG c.Have).2≠0 then([],(checkG c.Have).2) else if x.Qty<1 then([],1) else if (minusG c.Have [x]).2≠0 then([],(minusG c.Have [x]).2) else if (mergeG [] ins).2≠0 then([],(mergeG [] ins).2) else if (nowG c x ins).2≠0 then([],(nowG c x ins).2) else if (itsG r c (nowG c x ins).1).2≠0 then([],(itsG r c (nowG c x ins).1).2) else if goodC r c (nowG c x ins).1≠0 then([],goodC r c (nowG c x ins).1) else((nowG c x ins).1,0)
section
variable {r:List KN} {c:zbg} {x:zab} {ins:List zab}
theorem sw1 (c1:(checkG c.Have).2≠0):([],(checkG c.Have).2)=swapG r c x ins:=by unfold swapG;rw[if_pos c1]
theorem sw2 (c1:¬ (checkG c.Have).2≠0) (c2:x.Qty<1):([],1)=swapG r c x ins:=by unfold swapG;rw[if_neg c1,if_pos c2]
theorem sw3 (c1:¬ (checkG c.Have).2≠0) (c2:¬ x.Qty<1) (c3:(minusG c.Have [x]).2≠0):([],(minusG c.Have [x]).2)=swapG r c x ins:=by unfold swapG;rw[if_neg c1,if_neg c2,if_pos c3]
theorem sw4 (c1:¬ (checkG c.Have).2≠0) (c2:¬ x.Qty<1) (c3:¬ (minusG c.Have [x]).2≠0) (c4:(mergeG [] ins).2≠0):([],(mergeG [] ins).2)=swapG r c x ins:=by unfold swapG;rw[if_neg c1,if_neg c2,if_neg c3,if_pos c4]
theorem sw5 (c1:¬ (checkG c.Have).2≠0) (c2:¬ x.Qty<1) (c3:¬ (minusG c.Have [x]).2≠0) (c4:¬ (mergeG [] ins).2≠0) (c5:(nowG c x ins).2≠0):([],(nowG c x ins).2)=swapG r c x ins:=by unfold swapG;rw[if_neg c1,if_neg c2,if_neg c3,if_neg c4,if_pos c5]
theorem sw6 (c1:¬ (checkG c.Have).2≠0) (c2:¬ x.Qty<1) (c3:¬ (minusG c.Have [x]).2≠0) (c4:¬ (mergeG [] ins).2≠0) (c5:¬ (nowG c x ins).2≠0) (c6:(itsG r c (nowG c x ins).1).2≠0):([],(itsG r c (nowG c x ins).1).2)=swapG r c x ins:=by unfold swapG;rw[if_neg c1,if_neg c2,if_neg c3,if_neg c4,if_neg c5,if_pos c6]
theorem sw7 (c1:¬ (checkG c.Have).2≠0) (c2:¬ x.Qty<1) (c3:¬ (minusG c.Have [x]).2≠0) (c4:¬ (mergeG [] ins).2≠0) (c5:¬ (nowG c x ins).2≠0) (c6:¬ (itsG r c (nowG c x ins).1).2≠0) (c7:goodC r c (nowG c x ins).1≠0):([],goodC r c (nowG c x ins).1)=swapG r c x ins:=by unfold swapG;rw[if_neg c1,if_neg c2,if_neg c3,if_neg c4,if_neg c5,if_neg c6,if_pos c7]
theorem sw8 (c1:¬ (checkG c.Have).2≠0) (c2:¬ x.Qty<1) (c3:¬ (minusG c.Have [x]).2≠0) (c4:¬ (mergeG [] ins).2≠0) (c5:¬ (nowG c x ins).2≠0) (c6:¬ (itsG r c (nowG c x ins).1).2≠0) (c7:¬ goodC r c (nowG c x ins).1≠0):((nowG c x ins).1,0)=swapG r c x ins:=by unfold swapG;rw[if_neg c1,if_neg c2,if_neg c3,if_neg c4,if_neg c5,if_neg c6,if_neg c7]
theorem now_lk (c1:¬ (checkG c.Have).2≠0) (c2:¬ x.Qty<1) (c3:¬ (minusG c.Have [x]).2≠0) (c4:¬ (mergeG [] ins).2≠0) (c5:¬ (nowG c x ins).2≠0):Lk (nowG c x ins).1:=
 plus_ok _ _ (minus1_ok (Qb1 (Decidable.not_not.1 c1)) (by omega) c3) (ql_lk (Qes c4)) (Decidable.not_not.1 c5)
theorem Swap_r (h:Fine r) (hb:Rules c.Basket) (hN:InK .i64 c.Need) (hl:c.Have.length≤1000) (hi:ins.length≤1000):zft_r (bk r) (toS c) x ins (swapG r c x ins):=by
 refine zft_of ?_
 unfold zft_w
 refine⟨_,Qej (by show c.Have.length≤_;omega),Br.i (fun c1=>Rt.i (sw1 c1)) (fun c1=>Br.i (fun c2=>Rt.i (sw2 c1 c2)) (fun c2 => ?_))⟩
 have hk:=Qb1 (Decidable.not_not.1 c1)
 refine⟨_,Minus_r hk (by simp) (fun y hy=>by rw[List.mem_singleton.1 hy];omega),Br.i (fun c3=>Rt.i (sw3 c1 c2 c3)) (fun c3=>⟨_,Merge_r (by omega),Br.i (fun c4=>Rt.i (sw4 c1 c2 c3 c4)) (fun c4 => ?_)⟩)⟩
 have ml:=Qes c4
 refine⟨_,Plus_r (minus1_ok hk (by omega) c3) (by have:=ml.len;omega) (ql_lk ml),Br.i (fun c5=>Rt.i (sw5 c1 c2 c3 c4 c5)) (fun c5 => ?_)⟩
 have nl:=now_lk c1 c2 c3 c4 c5
 exact⟨_,Items_r h (c:=toS c) hb (by have:=nl.len;show(nowG c x ins).1.length≤_;omega),Br.i (fun c6=>Rt.i (sw6 c1 c2 c3 c4 c5 c6)) (fun c6=>⟨_,goodC_r h hN _,Br.i (fun c7=>Rt.i (sw7 c1 c2 c3 c4 c5 c6 c7)) (fun c7=>Rt.i (sw8 c1 c2 c3 c4 c5 c6 c7))⟩)⟩
theorem swap_len (hl:c.Have.length≤1000):(swapG r c x ins).1.length≤1000:=by
 by_cases c1:(checkG c.Have).2≠0
 ·rw[←sw1 c1];simp
 by_cases c2:x.Qty<1
 ·rw[←sw2 c1 c2];simp
 by_cases c3:(minusG c.Have [x]).2≠0
 ·rw[←sw3 c1 c2 c3];simp
 by_cases c4:(mergeG [] ins).2≠0
 ·rw[←sw4 c1 c2 c3 c4];simp
 by_cases c5:(nowG c x ins).2≠0
 ·rw[←sw5 c1 c2 c3 c4 c5];simp
 by_cases c6:(itsG r c (nowG c x ins).1).2≠0
 ·rw[←sw6 c1 c2 c3 c4 c5 c6];simp
 by_cases c7:goodC r c (nowG c x ins).1≠0
 ·rw[←sw7 c1 c2 c3 c4 c5 c6 c7];simp
 ·rw[←sw8 c1 c2 c3 c4 c5 c6 c7]
  have:=(now_lk c1 c2 c3 c4 c5).len
  show(nowG c x ins).1.length≤_
  omega
end
abbrev lA (n:Int):zab:=⟨⟨#[65]⟩,n⟩
abbrev lB (n:Int):zab:=⟨⟨#[66]⟩,n⟩
abbrev lC (n:Int):zab:=⟨⟨#[67]⟩,n⟩
theorem ck1:(checkG [lA 5,lB 2]).2=0:=by decide +kernel
theorem ck2:(checkG [lA 3,lC 4]).2=0:=by decide +kernel
theorem bo1:bothG [lA 3,lC 4] [lA 5,lB 2]=[lA 3]:=by kernel_rfl
theorem mi1:minusG [lA 3,lC 4] [lA 3]=([lC 4],0):=by kernel_rfl
theorem mi2:minusG [lA 5,lB 2] [lA 3]=([lA 2,lB 2],0):=by kernel_rfl
theorem betw1:zfy_r [lA 5,lB 2] [lA 3,lC 4] ⟨[lC 4],[lA 2,lB 2]⟩:=by
 refine zfy_of ?_
 unfold zfy_w
 have k1:=Qb1 ck1;have k2:=Qb1 ck2
 have b:=Both_r (a:=[lA 5,lB 2]) (b:=[lA 3,lC 4]) (by simp) k2
 have m1:=Minus_r (a:=[lA 3,lC 4]) (b:=[lA 3]) k2 (by simp) (fun y hy=>by rw[List.mem_singleton.1 hy];decide)
 have m2:=Minus_r (a:=[lA 5,lB 2]) (b:=[lA 3]) k1 (by simp) (fun y hy=>by rw[List.mem_singleton.1 hy];decide)
 rw[bo1] at b;rw[mi1] at m1;rw[mi2] at m2
 exact⟨_,b,_,m1,_,m2,Rt.i rfl⟩
theorem awake_r:zdp_r true:=by
 refine zdp_of ?_
 unfold zdp_w
 have h:zfo_r [lA 5,lB 2] [lA 3,lC 4] (⟨[lC 4],[lA 2,lB 2]⟩,0):=by
  refine zfo_of ?_
  unfold zfo_w
  exact⟨_,Qej (by simp),Br.neg (fun c=>c ck1) ⟨_,Qej (by simp),Br.neg (fun c=>c ck2) ⟨_,betw1,Rt.i rfl⟩⟩⟩
 exact⟨_,h,Br.t rfl ⟨_,Lots_r (a:=[lC 4]) (by simp),Br.t rfl ⟨_,Lots_r (a:=[lA 2,lB 2]) (by simp),Rt.i rfl⟩⟩⟩
theorem of_r (c:zbg):zfh_r c (toS c):=zfh_of (by unfold zfh_w;exact Rt.i rfl)
def goodS19 (c:zbg)(l:List zab):Bool:=decide (basketS c.Basket=0∧c.Have.length≤80∧l.length≤80)
theorem good19 {c:zbg}{l:List zab}(hc:c.Basket.Cuts.length≤100000000000000000):zet_r c l (goodS19 c l):=by
 refine zet_of ?_
 unfold zet_w goodS19
 simp only[Qab]
 refine⟨_,Basket_r hc,Br.i (fun c1=>Br.i (fun c2=>Rt.i ?_) (fun c2=>Rt.i ?_)) (fun c1=>Rt.i ?_)⟩
 ·exact decide_eq_decide.2 ⟨fun h=>⟨c1,by omega,by omega⟩,fun h=>by omega⟩
 ·exact(decide_eq_false (fun h=>c2 (by omega))).symm
 ·exact(decide_eq_false (fun h=>c1 h.1)).symm
theorem book_l {w:zds}:∀(n i:Nat)(r:List KN),n+i=min w.Known.length 40→Fine r→r.length≤i→∃q,Fine q∧∀Q:(List KN)×Bool×(List zaf)×(List Int)→Prop,Q (q,true,q.map (·.A),q.map (·.Price))→zci_L0 w Q r (i:Int) true (r.map (·.A)) (r.map (·.Price)):=by
 intro n
 induction n with
 |zero=>
  intro i r hn hf hr
  refine⟨r,hf,fun Q q => ?_⟩
  refine zci_l0 ?_
  unfold zci_w0
  rw[Qab]
  exact Br.i (fun c1=>Br.neg (by omega) (Lf.i q)) (fun _=>Lf.i q)
 |succ n ih=>
  intro i r hn hf hr
  have hi:i<w.Known.length:=by omega
  have g:w.Known[(i:Int).toNat]? = some w.Known[i]:=by simp[hi]
  obtain⟨r',e,h1,h2,h3,h4,h5⟩:=Add_both hf.1 (by omega) w.Known[i]
  obtain⟨q,hq,k⟩:=ih (i+1) r' (by omega) ⟨h3,by omega,fun y hy=>by
   rcases h5 y hy with h|⟨h,k⟩
   ·exact hf.2.2 y h
   ·rw[h];exact k⟩ (by omega)
  refine⟨q,hq,fun Q hQ => ?_⟩
  refine zci_l0 ?_
  unfold zci_w0
  rw[Qab]
  exact Br.pos (by omega) (Br.pos (by omega) ⟨w.Known[i],Got.i ⟨_,h1,Got.i ⟨_,h2,Num.n (by omega) (k Q hQ)⟩ (by omega) g⟩ (by omega) g⟩)
theorem book_r (w:zds):∃q,Fine q∧zci_r w (bk q,q):=by
 obtain⟨r,hf,k⟩:=book_l (w:=w) (min w.Known.length 40) 0 [] (by omega) ⟨List.Pairwise.nil,by simp,by simp⟩ (by simp)
 have hn:zgp_r (bk []):=zgp_of (by unfold zgp_w;exact Rt.i rfl)
 by_cases hp:w.Prices.length≤100
 ·obtain⟨q,n,e,h1,h2,h3⟩:=Set_both hf.1 hf.2.1 (p:=w.Prices) (by omega)
  refine⟨q,⟨ord_A hf.1 h3.symm,?_,fun y hy => ?_⟩,zci_of ?_⟩
  ·have:=congrArg List.length h3
   rw[List.length_map,List.length_map] at this
   have:=hf.2.1
   omega
  ·have hm:y.A∈q.map (·.A):=List.mem_map.2 ⟨y,hy,rfl⟩
   rw[h3] at hm
   obtain⟨z,hz,e⟩:=List.mem_map.1 hm
   rw[←e];exact hf.2.2 z hz
  ·unfold zci_w
   simp only[Qab]
   exact⟨_,hn,k _ (Br.pos (by omega) ⟨_,h1,_,h2,Rt.i rfl⟩)⟩
 ·refine⟨r,hf,zci_of ?_⟩
  unfold zci_w
  simp only[Qab]
  exact⟨_,hn,k _ (Br.neg (by omega) (Rt.i rfl))⟩
end Go.Proofs.YtjlkmdmaimednaaGreat.Pure
namespace Go.Proofs.YtjlkmdmaimednaaGreat.Pure
open Go Go.Ab Go.Stable Go.Proofs.YtjlkmdmaimednaaGreat.R
def inM (r:List KN)(b:zat)(day:Int)(l:List zab):List RI:=(isort leE (inL r b day l)).map toR
theorem plan_lk {t:zao}{out:List HI}(h:¬ (planS t out).2≠0):Lk (planS t out).1.Lots:=by
 unfold planS at h ⊢
 split at h
 ·rename_i k;exact absurd k h
 ·rename_i k
  rw[if_neg k]
  exact Qes k
theorem top_lk {b:zat}{hv fr:List RI}{need:Int}(h:¬ (topS b hv fr need).2≠0):Lk (topS b hv fr need).1.Lots:=by
 unfold topS at h ⊢
 split at h
 ·exact absurd (by decide) h
 rename_i k1
 rw[if_neg k1]
 split at h
 ·rename_i k;exact absurd k h
 rename_i k2
 rw[if_neg k2]
 split at h
 ·rename_i k;exact absurd k h
 rename_i k3
 rw[if_neg k3]
 split at h
 ·rename_i k;exact absurd k h
 rename_i k4
 rw[if_neg k4]
 exact plan_lk h
theorem spare_lk {l:List RI}{need:Int}(h:¬ (spareS l need).2≠0):Lk (spareS l need).1:=by
 unfold spareS at h ⊢
 split at h
 ·rename_i k;exact absurd k h
 rename_i k1
 rw[if_neg k1]
 split at h
 ·rename_i k;exact absurd k h
 rename_i k2
 rw[if_neg k2]
 exact Qes h
section
variable (r:List KN) (c:zbg) (free:List zab)
abbrev topG:zed×Int:=topS c.Basket (inM r c.Basket c.Day c.Have) (inM r c.Basket c.Day free) c.Need
abbrev spG:List zab×Int:=spareS ((itsG r c (topG r c free).1.Lots).1.map toR) c.Need
def renewG:List zab×Int×Int:=
 if (checkG c.Have).2≠0 then([],0,(checkG c.Have).2) else if (checkG free).2≠0 then([],0,(checkG free).2) else if (topG r c free).2≠0 then([],0,(topG r c free).2) else if 0<(topG r c free).1.Short then((topG r c free).1.Lots,(topG r c free).1.Short,0) else if (itsG r c (topG r c free).1.Lots).2≠0 then([],0,(itsG r c (topG r c free).1.Lots).2) else if (spG r c free).2≠0 then([],0,(spG r c free).2) else((minusG (topG r c free).1.Lots (spG r c free).1).1,0,(minusG (topG r c free).1.Lots (spG r c free).1).2)
end
section
variable {r:List KN} {c:zbg} {free:List zab}
theorem rn1 (c1:(checkG c.Have).2≠0):([],0,(checkG c.Have).2)=renewG r c free:=by unfold renewG;rw[if_pos c1]
theorem rn2 (c1:¬ (checkG c.Have).2≠0) (c2:(checkG free).2≠0):([],0,(checkG free).2)=renewG r c free:=by unfold renewG;rw[if_neg c1,if_pos c2]
theorem rn3 (c1:¬ (checkG c.Have).2≠0) (c2:¬ (checkG free).2≠0) (c3:(topG r c free).2≠0):([],0,(topG r c free).2)=renewG r c free:=by unfold renewG;rw[if_neg c1,if_neg c2,if_pos c3]
theorem rn4 (c1:¬ (checkG c.Have).2≠0) (c2:¬ (checkG free).2≠0) (c3:¬ (topG r c free).2≠0) (c4:0<(topG r c free).1.Short):((topG r c free).1.Lots,(topG r c free).1.Short,0)=renewG r c free:=by unfold renewG;rw[if_neg c1,if_neg c2,if_neg c3,if_pos c4]
theorem rn5 (c1:¬ (checkG c.Have).2≠0) (c2:¬ (checkG free).2≠0) (c3:¬ (topG r c free).2≠0) (c4:¬ 0<(topG r c free).1.Short) (c5:(itsG r c (topG r c free).1.Lots).2≠0):([],0,(itsG r c (topG r c free).1.Lots).2)=renewG r c free:=by unfold renewG;rw[if_neg c1,if_neg c2,if_neg c3,if_neg c4,if_pos c5]
theorem rn6 (c1:¬ (checkG c.Have).2≠0) (c2:¬ (checkG free).2≠0) (c3:¬ (topG r c free).2≠0) (c4:¬ 0<(topG r c free).1.Short) (c5:¬ (itsG r c (topG r c free).1.Lots).2≠0) (c6:(spG r c free).2≠0):([],0,(spG r c free).2)=renewG r c free:=by unfold renewG;rw[if_neg c1,if_neg c2,if_neg c3,if_neg c4,if_neg c5,if_pos c6]
theorem rn7 (c1:¬ (checkG c.Have).2≠0) (c2:¬ (checkG free).2≠0) (c3:¬ (topG r c free).2≠0) (c4:¬ 0<(topG r c free).1.Short) (c5:¬ (itsG r c (topG r c free).1.Lots).2≠0) (c6:¬ (spG r c free).2≠0):((minusG (topG r c free).1.Lots (spG r c free).1).1,0,(minusG (topG r c free).1.Lots (spG r c free).1).2)=renewG r c free:=by unfold renewG;rw[if_neg c1,if_neg c2,if_neg c3,if_neg c4,if_neg c5,if_neg c6]
theorem two_l {hv:zdh}{k:zaw}(h1:hv.Have.length≤1000) (h2:free.length≤1000){Q0:Int→Prop}{Q1:Unit→Prop}(q1:(checkG hv.Have).2≠0→Q0 (checkG hv.Have).2) (q2:¬ (checkG hv.Have).2≠0→(checkG free).2≠0→Q0 (checkG free).2) (q3:¬ (checkG hv.Have).2≠0→¬ (checkG free).2≠0→Q1 ()):zct_L0 free hv k Q0 Q1 0:=by
 have e:∀a b:List zab,lenM (eL 2 zab.enc) [a,b]=2:=fun _ _=>rfl
 refine zct_l0 ?_
 unfold zct_w0
 rw[e]
 refine Br.pos (by decide) (InL.i ⟨hv.Have,EltG.i ⟨_,Qej (by omega),Br.i (fun c1=>Lf.i (q1 c1)) (fun c1=>Num.n (by decide) ?_)⟩ rfl⟩ (by decide) (show(0:Nat)<2 by decide))
 refine zct_l0 ?_
 unfold zct_w0
 rw[e]
 refine Br.pos (by decide) (InL.i ⟨free,EltG.i ⟨_,Qej (by omega),Br.i (fun c2=>Lf.i (q2 c1 c2)) (fun c2=>Num.n (by decide) ?_)⟩ rfl⟩ (by decide) (show(1:Nat)<2 by decide))
 refine zct_l0 ?_
 unfold zct_w0
 rw[e]
 exact Br.neg (by decide) (Lf.i (q3 c1 c2))
theorem eligH (h:Fine r) (hb:Rules c.Basket){l:List zab}(hl:l.length≤1000):zcx_r (bk r) c.Basket l c.Day ((inM r c.Basket c.Day l).map toH,outL r c.Basket c.Day l):=by
 have:=Eligible_r h hb (day:=c.Day) hl
 rwa [show(inM r c.Basket c.Day l).map toH=isort leE (inL r c.Basket c.Day l) from Qcc _]
theorem Renew_r (h:Fine r) (hb:Rules c.Basket) (hN:InK .i64 c.Need) (h1:c.Have.length≤1000) (h2:free.length≤1000):zct_r (bk r) (toS c) free (renewG r c free):=by
 refine zct_of ?_
 unfold zct_w
 refine two_l (hv:=toS c) h1 h2 (fun c1=>Rt.i (rn1 c1)) (fun c1 c2=>Rt.i (rn2 c1 c2)) (fun c1 c2 => ?_)
 refine⟨_,eligH h hb h1,_,eligH h hb h2,_,Top_r,Br.i (fun c3=>Rt.i (rn3 c1 c2 c3)) (fun c3=>Br.i (fun c4=>Rt.i (rn4 c1 c2 c3 c4)) (fun c4 => ?_))⟩
 have tl:Lk (topG r c free).1.Lots:=top_lk c3
 have sp:=Spare_r (l:=(itsG r c (topG r c free).1.Lots).1.map toR) (need:=c.Need) hN
 rw[Qcc] at sp
 refine⟨_,Items_r h (c:=toS c) hb (by have:=tl.len;show(topG r c free).1.Lots.length≤_;omega),Br.i (fun c5=>Rt.i (rn5 c1 c2 c3 c4 c5)) (fun c5=>⟨_,sp,Br.i (fun c6=>Rt.i (rn6 c1 c2 c3 c4 c5 c6)) (fun c6 => ?_)⟩)⟩
 have sl:Lk (spG r c free).1:=spare_lk c6
 exact⟨_,Minus_r tl (by have:=sl.len;show(spG r c free).1.length≤_;omega) (fun y hy=>(sl.pos y hy).1),Rt.i (rn7 c1 c2 c3 c4 c5 c6)⟩
end
end Go.Proofs.YtjlkmdmaimednaaGreat.Pure
namespace Go.Proofs.YtjlkmdmaimednaaGreat.Pure
open Go Go.Ab Go.Stable Go.Proofs.YtjlkmdmaimednaaGreat.R
theorem Qee (s:ByteArray){a b:List zab}(h:a.Perm b):sumQ s a=sumQ s b:=by
 induction h with
 |nil=>rfl
 |cons x _ ih=>simp only[sumQ,ih]
 |swap x y l=>simp only[sumQ];omega
 |trans _ _ h1 h2=>exact h1.trans h2
structure Ta (t:zao) (out:List HI):Prop where
 s:t.sum=sumW pT out
 i:∀k,t.issuers.getD k 0=sumW (pI k) out
 a:∀k,t.assets.getD k 0=sumW (pA k) out
theorem Ta_set {t:zao}{A B:List HI}{w x:HI}{q n:Int}(h:Ta t (A++w::B)) (e:w.Asset=x.Asset) (hn:n=covH (setQ x q)-covH w):Ta (putT t x.Asset n) (A++setQ x q::B):=by
 have hi:=h.i;have ha:=h.a;have hs:=h.s
 refine⟨?_,fun k => ?_,fun k => ?_⟩
 ·simp only[putT,Qb3,sumW,pT,if_true] at hs ⊢;omega
 ·have hk:=hi k
  simp only[putT,Qba,Qb3,sumW] at hk ⊢
  by_cases c:k=x.Asset.Issuer
  ·subst c
   have:=hi x.Asset.Issuer
   rw[if_pos rfl,if_pos (show pI x.Asset.Issuer (setQ x q)=true from decide_eq_true rfl)]
   rw[if_pos (show pI x.Asset.Issuer w=true from decide_eq_true (by rw[e]))] at hk
   omega
  ·rw[if_neg c,if_neg (show ¬ pI k (setQ x q)=true by unfold pI;simp;exact fun h=>c h.symm)]
   rw[if_neg (show ¬ pI k w=true by unfold pI;simp;rw[e];exact fun h=>c h.symm)] at hk
   omega
 ·have hk:=ha k
  simp only[putT,Qba,Qb3,sumW] at hk ⊢
  by_cases c:k=x.Asset.ISIN
  ·subst c
   rw[if_pos rfl,if_pos (show pA x.Asset.ISIN (setQ x q)=true from decide_eq_true rfl)]
   rw[if_pos (show pA x.Asset.ISIN w=true from decide_eq_true (by rw[e]))] at hk
   omega
  ·rw[if_neg c,if_neg (show ¬ pA k (setQ x q)=true by unfold pA;simp;exact fun h=>c h.symm)]
   rw[if_neg (show ¬ pA k w=true by unfold pA;simp;rw[e];exact fun h=>c h.symm)] at hk
   omega
theorem Ta_put {t:zao}{out:List HI}{x:HI}{q:Int}(h:Ta t out):Ta (putT t x.Asset (covH (setQ x q))) (out++[setQ x q]):=by
 refine⟨?_,fun k => ?_,fun k => ?_⟩
 ·simp only[putT,Qb3,sumW,h.s,pT,if_true];omega
 ·simp only[putT,Qba,Qb3,sumW,h.i]
  by_cases e:k=x.Asset.Issuer
  ·subst e;rw[if_pos rfl,if_pos (show pI x.Asset.Issuer (setQ x q)=true from decide_eq_true rfl)];omega
  ·rw[if_neg e,if_neg (show ¬ pI k (setQ x q)=true by unfold pI;simp;exact fun h=>e h.symm)];omega
 ·simp only[putT,Qba,Qb3,sumW,h.a]
  by_cases e:k=x.Asset.ISIN
  ·subst e;rw[if_pos rfl,if_pos (show pA x.Asset.ISIN (setQ x q)=true from decide_eq_true rfl)];omega
  ·rw[if_neg e,if_neg (show ¬ pA k (setQ x q)=true by unfold pA;simp;exact fun h=>e h.symm)];omega
structure Iv (H:List HI) (C:ByteArray→Int) (t:zao) (out:List HI):Prop where
 ta:Ta t out
 apart:out.Pairwise (fun x y=>x.Lot.ISIN≠y.Lot.ISIN)
 cn:∀s,0≤C s
 qb:∀y∈out,1≤y.Lot.Qty∧y.Lot.Qty≤C y.Lot.ISIN
 src:∀y∈out,∃x∈H,y=setQ x y.Lot.Qty
def plusC (C:ByteArray→Int)(x:HI)(s:ByteArray):Int:=C s+(if x.Lot.ISIN=s then x.Lot.Qty else 0)
theorem Iv.mono {H:List HI}{C D:ByteArray→Int}{t:zao}{out:List HI}(h:Iv H C t out) (hd:∀s,C s≤D s):Iv H D t out:=
 ⟨h.ta,h.apart,fun s=>Int.le_trans (h.cn s) (hd s),fun y hy=>⟨(h.qb y hy).1,Int.le_trans (h.qb y hy).2 (hd _)⟩,h.src⟩
theorem Qgb {C:ByteArray→Int}{x:HI}(hx:It x) (s:ByteArray):C s≤plusC C x s:=by
 have:=hx.pos;unfold plusC;split<;>omega
theorem iv_new {H:List HI}{C:ByteArray→Int}{t:zao}{out:List HI}{x:HI}{q:Int}(h:Iv H C t out) (hx:It x) (xh:x∈H) (ha:∀y∈out,y.Lot.ISIN≠x.Lot.ISIN) (h1:1≤q) (h2:q≤x.Lot.Qty):
  Iv H (plusC C x) (putT t x.Asset (covH (setQ x q))) (out++[setQ x q]):=by
 have px:=hx.pos
 have m:=h.mono (Qgb hx)
 have c0:=h.cn x.Lot.ISIN
 refine⟨Ta_put h.ta,List.pairwise_append.2 ⟨h.apart,List.pairwise_singleton _ _,fun y hy z hz=>by rw[List.mem_singleton.1 hz];exact ha y hy⟩,m.cn,fun y hy => ?_,fun y hy => ?_⟩
 ·rcases List.mem_append.1 hy with hy|hy
  ·exact m.qb y hy
  ·rw[List.mem_singleton.1 hy]
   refine⟨h1,?_⟩
   show q≤plusC C x x.Lot.ISIN
   unfold plusC;rw[if_pos rfl];omega
 ·rcases List.mem_append.1 hy with hy|hy
  ·exact h.src y hy
  ·rw[List.mem_singleton.1 hy];exact⟨x,xh,rfl⟩
theorem cov0 {x:HI}(hx:It x):covH (setQ x 0)=0:=by rw[cov_q hx.good (by decide)];simp[cv]
theorem iv_keep {H:List HI}{C:ByteArray→Int}{t:zao}{out:List HI}{x:HI}(h:Iv H C t out) (ht:Tok t) (hx:It x) (xh:x∈H) (ha:∀y∈out,y.Lot.ISIN≠x.Lot.ISIN):
  Iv H (plusC C x) (keepF (t,out) x).1 (keepF (t,out) x).2∧∀y∈(keepF (t,out) x).2,y∈out∨y.Lot.ISIN=x.Lot.ISIN:=by
 obtain⟨k1,k2,k3,k4⟩:=kq_bd ht hx
 unfold keepF
 dsimp only
 by_cases c:0<covH (setQ x (kqF t x))
 ·rw[if_pos c]
  have q1:1≤kqF t x:=by
   by_cases e:kqF t x=0
   ·rw[e,cov0 hx] at c;exact absurd c (Int.lt_irrefl 0)
   ·omega
  refine⟨iv_new h hx xh ha q1 k2,fun y hy => ?_⟩
  rcases List.mem_append.1 hy with hy|hy
  ·exact .inl hy
  ·rw[List.mem_singleton.1 hy];exact .inr rfl
 ·rw[if_neg c];exact⟨h.mono (Qgb hx),fun y hy => .inl hy⟩
theorem q1_le {t:zao}{x:HI}{cover q:Int}(hx:It x) (ht:Tok t) (hc:0≤cover) (hq:0≤q∧q≤1125899906842624):q1F t x cover q≤q:=by
 have hr:=Qd9 (a:=x.Asset) ht
 unfold q1F
 split
 ·unfold mostS
  rw[if_neg (by simp[hx.good]),if_neg (by omega),if_neg (by omega),if_neg (by omega)]
  split<;>omega
 ·omega
theorem q0_le {t:zao}{x:HI}{qty cover:Int}:q0F t x qty cover≤qty+x.Lot.Qty:=by
 unfold q0F;split<;>omega
theorem iv_step {H:List HI}{C:ByteArray→Int}{t:zao}{out l:List HI}{x:HI}(h:Iv H C t out) (hf:Fi out (x::l)) (ht:Tok t) (xh:x∈H):
  Iv H (plusC C x) (stepF (t,out) x).1 (stepF (t,out) x).2:=by
 have ix:=hf.it x (List.mem_cons_self ..)
 have px:=ix.pos;have tx:=ix.top
 obtain⟨w1,w2,w3,w4,w5⟩:=was_or hf
 obtain⟨_,_,_,s4,s5,s6⟩:=Qe8 hf ht
 have q0:=q0_bd (t:=t) (cover:=covH (wasF out x)) ix w2 w3
 have qle:qF t x (wasF out x).Lot.Qty (covH (wasF out x))≤(wasF out x).Lot.Qty+x.Lot.Qty:=by
  have h1:=q1_le (t:=t) (cover:=covH (wasF out x)) ix ht s5 q0
  have h2:=q0_le (t:=t) (x:=x) (qty:=(wasF out x).Lot.Qty) (cover:=covH (wasF out x))
  show q1F t x _ (q0F t x _ _)≤_;omega
 unfold stepF
 dsimp only
 by_cases c:nF t out x≤0
 ·rw[if_pos c];exact h.mono (Qgb ix)
 rw[if_neg c]
 have q1:1≤qF t x (wasF out x).Lot.Qty (covH (wasF out x)):=by
  by_cases e:qF t x (wasF out x).Lot.Qty (covH (wasF out x))=0
  ·refine absurd ?_ c
   unfold nF;rw[e,cov0 ix];omega
  ·omega
 rcases w5 with⟨e1,e2,e3⟩|⟨A,B,e1,e2,e3,e4⟩
 ·have ha:∀y∈out,y.Lot.ISIN≠x.Lot.ISIN:=by
   rcases atH_or x.Lot.ISIN out with⟨_,k⟩|⟨A,y,B,_,_,k⟩
   ·exact k
   ·omega
  have en:nF t out x=covH (setQ x (qF t x (wasF out x).Lot.Qty (covH (wasF out x)))):=by unfold nF;omega
  have z:(wasF out x).Lot.Qty=0:=by rw[e2];rfl
  dsimp only
  rw[if_neg (show ¬ 0≤atH x.Lot.ISIN out by omega),en]
  exact iv_new h ix xh ha q1 (by omega)
 ·have et:(atH x.Lot.ISIN out).toNat=A.length:=by rw[e3,Int.toNat_natCast]
  have es:out.set (atH x.Lot.ISIN out).toNat (setQ x (qF t x (wasF out x).Lot.Qty (covH (wasF out x))))=A++setQ x (qF t x (wasF out x).Lot.Qty (covH (wasF out x)))::B:=by
   rw[et]
   generalize setQ x (qF t x (wasF out x).Lot.Qty (covH (wasF out x)))=z
   rw[e1,List.set_append_right _ _ (Nat.le_refl _),Nat.sub_self];rfl
  have m:=h.mono (Qgb (C:=C) ix)
  have wm:wasF out x∈out:=by
   generalize hw:wasF out x=w at e1
   rw[e1];simp
  dsimp only
  rw[if_pos (show 0≤atH x.Lot.ISIN out by omega),es]
  have eA:(wasF out x).Asset=x.Asset:=by show(setQ (wasF out x) 0).Asset=(setQ x 0).Asset;rw[e4 0]
  have ta:Ta t (A++wasF out x::B):=by
   have:=h.ta
   generalize wasF out x=w at e1
   rw[e1] at this;exact this
  have ap:(A++wasF out x::B).Pairwise (fun x y=>x.Lot.ISIN≠y.Lot.ISIN):=by
   have:=h.apart
   generalize wasF out x=w at e1
   rw[e1] at this;exact this
  have sub:∀y∈A++B,y∈out:=fun y hy=>by
   generalize wasF out x=w at e1
   rw[e1];simp only[List.mem_append,List.mem_cons] at hy ⊢;rcases hy with h|h
   ·exact .inl h
   ·exact .inr (.inr h)
  have mem:∀y∈A++setQ x (qF t x (wasF out x).Lot.Qty (covH (wasF out x)))::B,y=setQ x (qF t x (wasF out x).Lot.Qty (covH (wasF out x)))∨y∈out:=fun y hy=>by
   rcases List.mem_append.1 hy with k|k
   ·exact .inr (sub y (List.mem_append.2 (.inl k)))
   ·rcases List.mem_cons.1 k with k|k
    ·exact .inl k
    ·exact .inr (sub y (List.mem_append.2 (.inr k)))
  refine⟨Ta_set ta eA rfl,?_,m.cn,fun y hy => ?_,fun y hy => ?_⟩
  ·rw[List.pairwise_append,List.pairwise_cons] at ap ⊢
   obtain⟨a1,⟨a2,a3⟩,a4⟩:=ap
   refine⟨a1,⟨fun z hz => ?_,a3⟩,fun y hy z hz => ?_⟩
   ·show x.Lot.ISIN≠_;rw[←e2];exact a2 z hz
   ·rcases List.mem_cons.1 hz with rfl|hz
    ·show _≠x.Lot.ISIN;rw[←e2];exact a4 y hy _ (List.mem_cons_self ..)
    ·exact a4 y hy z (List.mem_cons_of_mem _ hz)
  ·rcases mem y hy with rfl|hy
   ·refine⟨q1,?_⟩
    have k:=(h.qb _ wm).2
    rw[e2] at k
    show qF t x (wasF out x).Lot.Qty (covH (wasF out x))≤plusC C x x.Lot.ISIN
    unfold plusC;rw[if_pos rfl];omega
   ·exact m.qb y hy
  ·rcases mem y hy with rfl|hy
   ·exact⟨x,xh,rfl⟩
   ·exact h.src y hy
def manyC (C:ByteArray→Int)(L:List HI)(s:ByteArray):Int:=C s+sumQ s (L.map (·.Lot))
theorem sumQ_nn {s:ByteArray}:∀{L:List HI},(∀x∈L,It x)→0≤sumQ s (L.map (·.Lot))
 |[],_=>Int.le_refl 0
 |x::L,h=>by
  have p:=(h x (List.mem_cons_self ..)).pos
  have:=sumQ_nn (s:=s) (L:=L) fun y hy=>h y (List.mem_cons_of_mem _ hy)
  simp only[List.map_cons,sumQ];split<;>omega
theorem many_nil (C:ByteArray→Int):manyC C []=C:=funext fun s=>by show C s+0=C s;omega
theorem many_cons (C:ByteArray→Int) (x:HI) (L:List HI):manyC (plusC C x) L=manyC C (x::L):=funext fun s=>by
 simp only[manyC,plusC,List.map_cons,sumQ];omega
theorem iv_keeps {H:List HI}:∀(L:List HI)(C:ByteArray→Int)(t:zao)(out:List HI)(r:zal)(m:Nat),Iv H C t out→(∀x∈L,x∈H∧It x∧∀y∈out,y.Lot.ISIN≠x.Lot.ISIN)→L.Pairwise (fun x y=>x.Lot.ISIN≠y.Lot.ISIN)→Al r t m→m+L.length≤500→
  Iv H (manyC C L) (keptF (t,out) L).1 (keptF (t,out) L).2∧(keptF (t,out) L).1.need=t.need∧(keptF (t,out) L).1.issuer=t.issuer∧(keptF (t,out) L).1.asset=t.asset
 |[],C,t,out,r,m,h,hx,ap,ha,hm=>⟨by rw[many_nil];exact h,rfl,rfl,rfl⟩
 |x::L,C,t,out,r,m,h,hx,ap,ha,hm=>by
  simp only[List.length_cons] at hm
  simp only[keptF]
  obtain⟨x1,x2,x3⟩:=hx x (List.mem_cons_self ..)
  obtain⟨a1,a2⟩:=List.pairwise_cons.1 ap
  obtain⟨k1,k2⟩:=iv_keep h ha.tok x2 x1 x3
  have nn:(keepF (t,out) x).1.need=t.need∧(keepF (t,out) x).1.issuer=t.issuer∧(keepF (t,out) x).1.asset=t.asset:=by
   unfold keepF;split
   ·exact⟨rfl,rfl,rfl⟩
   ·exact⟨rfl,rfl,rfl⟩
  obtain⟨r1,r2,r3,r4⟩:=iv_keeps L (plusC C x) _ _ _ (m+1) k1 (fun z hz=>⟨(hx z (List.mem_cons_of_mem _ hz)).1,(hx z (List.mem_cons_of_mem _ hz)).2.1,fun y hy e=>by
   rcases k2 y hy with k|k
   ·exact(hx z (List.mem_cons_of_mem _ hz)).2.2 y k e
   ·exact a1 z hz (by rw[←k,e])⟩) a2 (keep_al ha (by omega) x2) (by omega)
  rw[many_cons] at r1
  exact⟨r1,r2.trans nn.1,r3.trans nn.2.1,r4.trans nn.2.2⟩
theorem iv_fill {H:List HI}:∀(L:List HI)(C:ByteArray→Int)(t:zao)(out:List HI)(r:zal)(m:Nat),Iv H C t out→(∀x∈L,x∈H)→Fi out L→Al r t m→m+L.length≤500→
  Iv H (manyC C L) (fillF (t,out) L).1 (fillF (t,out) L).2∧Tok (fillF (t,out) L).1∧(fillF (t,out) L).1.need=t.need∧(fillF (t,out) L).1.issuer=t.issuer∧(fillF (t,out) L).1.asset=t.asset
 |[],C,t,out,r,m,h,hx,hf,ha,hm=>⟨by rw[many_nil];exact h,ha.tok,rfl,rfl,rfl⟩
 |x::L,C,t,out,r,m,h,hx,hf,ha,hm=>by
  simp only[List.length_cons] at hm
  simp only[fillF]
  by_cases c:openT t=0
  ·rw[if_pos c]
   exact⟨h.mono fun s=>by have:=sumQ_nn (s:=s) hf.it;show C s≤C s+_;omega,ha.tok,rfl,rfl,rfl⟩
  ·rw[if_neg c]
   have k1:=iv_step h hf ha.tok (hx x (List.mem_cons_self ..))
   have nn:(stepF (t,out) x).1.need=t.need∧(stepF (t,out) x).1.issuer=t.issuer∧(stepF (t,out) x).1.asset=t.asset:=by
    unfold stepF;split
    ·exact⟨rfl,rfl,rfl⟩
    ·exact⟨rfl,rfl,rfl⟩
   obtain⟨s1,s2,_⟩:=Qe8 hf ha.tok
   obtain⟨r1,r0,r2,r3,r4⟩:=iv_fill L (plusC C x) _ _ _ (m+1) k1 (fun z hz=>hx z (List.mem_cons_of_mem _ hz)) s1 (step_al hf ha (by omega)) (by omega)
   rw[many_cons] at r1
   exact⟨r1,r0,r2.trans nn.1,r3.trans nn.2.1,r4.trans nn.2.2⟩
theorem Ta_nil (b:zat) (need:Int):Ta (newT b need) []:=⟨rfl,fun _=>rfl,fun _=>rfl⟩
theorem top_iv {b:zat}{hv fr:List RI}{need:Int}(h:¬ (topS b hv fr need).2≠0):newOk b need∧∃t out,Tok t∧Iv (hv.map toH++fr.map toH) (fun s=>sumQ s (hv.map (·.Lot))+sumQ s (fr.map (·.Lot))) t out∧t.need=need∧t.issuer=(newT b need).issuer∧t.asset=(newT b need).asset∧topS b hv fr need=planS t out:=by
 unfold topS at h ⊢
 split at h
 ·exact absurd (by decide) h
 rename_i k1
 rw[if_neg k1]
 split at h
 ·rename_i k;exact absurd k h
 rename_i k2
 rw[if_neg k2]
 split at h
 ·rename_i k;exact absurd k h
 rename_i k3
 rw[if_neg k3]
 split at h
 ·rename_i k;exact absurd k h
 rename_i k4
 rw[if_neg k4]
 have n1:=Decidable.not_not.1 k1;have n2:=Decidable.not_not.1 k2;have n3:=Decidable.not_not.1 k3;have n4:=Decidable.not_not.1 k4
 obtain⟨f1,f2⟩:=Qfx n2
 obtain⟨g1,g2⟩:=Qfx n3
 obtain⟨m',a,c,d,e⟩:=top_fi n1 n2 n3 n4
 have z:Iv (hv.map toH++fr.map toH) (fun _=>0) (newT b need) []:=⟨Ta_nil b need,List.Pairwise.nil,fun _=>Int.le_refl 0,by simp,by simp⟩
 obtain⟨p1,p2,p3,p4⟩:=iv_keeps (isort leE (hv.map toH)) _ _ _ _ 0 z (fun x hx=>⟨List.mem_append.2 (.inl ((Qap _).mem_iff.1 hx)),f1.it x hx,by simp⟩) f1.apart (Al_new n1) (by rw[Qbb];simp;omega)
 obtain⟨q1,q0,q2,q3,q4⟩:=iv_fill (isort leE (fr.map toH)) _ _ _ _ m' p1 (fun x hx=>List.mem_append.2 (.inr ((Qap _).mem_iff.1 hx))) e a (by rw[Qbb];simp;omega)
 refine⟨n1,_,_,q0,q1.mono fun s => ?_,q2.trans p2,q3.trans p3,q4.trans p4,rfl⟩
 have e1:sumQ s ((isort leE (hv.map toH)).map (·.Lot))=sumQ s (hv.map (·.Lot)):=by
  rw[Qee s ((Qap (hv.map toH)).map (·.Lot)),List.map_map];rfl
 have e2:sumQ s ((isort leE (fr.map toH)).map (·.Lot))=sumQ s (fr.map (·.Lot)):=by
  rw[Qee s ((Qap (fr.map toH)).map (·.Lot)),List.map_map];rfl
 unfold manyC
 rw[e1,e2]
 show 0+sumQ s (hv.map (·.Lot))+sumQ s (fr.map (·.Lot))≤_
 omega
end Go.Proofs.YtjlkmdmaimednaaGreat.Pure
namespace Go.Proofs.YtjlkmdmaimednaaGreat.Pure
open Go Go.Ab Go.Stable Go.Proofs.YtjlkmdmaimednaaGreat.R
section
variable {r:List KN} {b:zat} {day:Int}
theorem item_val {x:zab}(e:(itemS r b x day).2=0):∃y,lk x.ISIN r=some y∧y.Price≠0∧(ofS b y.A day).2=true∧0≤x.Qty∧x.Qty≤1125899906842624∧itemS r b x day=(⟨x,y.A,y.Price,(ofS b y.A day).1⟩,0):=by
 cases k:lk x.ISIN r with
 |none=>unfold itemS at e;rw[k] at e;cases e
 |some y=>
  have d:itemS r b x day=if y.Price=0 then(zI,31) else if (ofS b y.A day).2=false then(zI,23) else if x.Qty<0 then(zI,1) else if x.Qty>1125899906842624 then(zI,1) else(⟨x,y.A,y.Price,(ofS b y.A day).1⟩,0):=by unfold itemS;rw[k]
  rw[d] at e ⊢
  by_cases c1:y.Price=0
  ·rw[if_pos c1] at e;cases e
  rw[if_neg c1] at e ⊢
  by_cases c2:(ofS b y.A day).2=false
  ·rw[if_pos c2] at e;cases e
  rw[if_neg c2] at e ⊢
  by_cases c3:x.Qty<0
  ·rw[if_pos c3] at e;cases e
  rw[if_neg c3] at e ⊢
  by_cases c4:x.Qty>1125899906842624
  ·rw[if_pos c4] at e;cases e
  rw[if_neg c4]
  exact⟨y,rfl,c1,by simpa using c2,by omega,by omega,rfl⟩
theorem Qc7 {x:zab}(e:(itemS r b x day).2=0):(itemS r b x day).1.Lot=x:=by
 obtain⟨y,_,_,_,_,_,d⟩:=item_val e
 rw[d]
theorem item_same {x z:zab}(e:(itemS r b x day).2=0) (h:z.ISIN=x.ISIN) (h0:0≤z.Qty) (h1:z.Qty≤1125899906842624):itemS r b z day=(setQ (itemS r b x day).1 z.Qty,0):=by
 obtain⟨y,k,k1,k2,_,_,d⟩:=item_val e
 rw[d]
 unfold itemS
 rw[h,k]
 show(if y.Price=0 then(zI,(31:Int)) else _)=_
 rw[if_neg k1,if_neg (by rw[k2];decide),if_neg (by omega),if_neg (by omega)]
 unfold setQ
 show((⟨z,y.A,y.Price,(ofS b y.A day).1⟩:zaa),(0:Int))=(⟨⟨x.ISIN,z.Qty⟩,y.A,y.Price,(ofS b y.A day).1⟩,0)
 rw[←h]
theorem its_ok:∀{l:List zab},(itemsG r b day l).2=0→∀x∈l,(itemS r b x day).2=0∧whyS b (itemS r b x day).1.Asset day=0
 |x::l,h,z,hz=>by
  unfold itemsG at h
  split at h
  ·rename_i k;exact absurd h k
  rename_i k1
  split at h
  ·cases h
  rename_i k2
  split at h
  ·rename_i k;exact absurd h k
  rename_i k3
  rcases List.mem_cons.1 hz with rfl|hz
  ·exact⟨Decidable.not_not.1 k1,Decidable.not_not.1 k2⟩
  ·exact its_ok (Decidable.not_not.1 k3) z hz
theorem its_mk:∀{l:List zab},(∀x∈l,(itemS r b x day).2=0∧whyS b (itemS r b x day).1.Asset day=0)→itemsG r b day l=(l.map (fun x=>(itemS r b x day).1),0)
 |[],_=>rfl
 |x::l,h=>by
  obtain⟨h1,h2⟩:=h x (List.mem_cons_self ..)
  exact itemsG_4 (fun k=>k h1) (fun k=>k h2) (its_mk fun z hz=>h z (List.mem_cons_of_mem _ hz))
end
theorem chk_lk:∀(l:List zab)(p:Option zab)(i:Nat),l.Pairwise (fun x y=>sLt x.ISIN y.ISIN)→(∀x∈l,1≤x.Qty∧x.Qty≤1125899906842624)→(∀y,p=some y→∀x∈l,sLt y.ISIN x.ISIN)→(chkG p i l).2=0
 |[],p,i,_,_,_=>by cases p<;>rfl
 |x::l,p,i,h1,h2,h3=>by
  obtain⟨a1,a2⟩:=List.pairwise_cons.1 h1
  have ih:=chk_lk l (some x) (i+1) a2 (fun y hy=>h2 y (List.mem_cons_of_mem _ hy)) (fun y hy z hz=>by cases hy;exact a1 z hz)
  rw[Qei,if_neg (fun k=>k (h2 x (List.mem_cons_self ..)))]
  cases p with
  |none=>exact ih
  |some y=>
   show(if ¬ sLt y.ISIN x.ISIN then((i:Int),(7:Int)) else chkG (some x) (i+1) l).2=0
   rw[if_neg (fun k=>k (h3 y rfl x (List.mem_cons_self ..)))];exact ih
theorem check_lk {l:List zab}(h:Lk l):(checkG l).2=0:=by
 have:=h.len
 unfold checkG
 rw[if_neg (by omega)]
 exact chk_lk l none 0 h.srt h.pos (fun y hy=>by cases hy)
theorem cov_fine {x:RI}(h:It (toH x)):¬ ((coverS x.Lot.Qty x.Price x.Cut).2≠0∨x.Lot.Qty=0):=by
 have hp:1≤x.Lot.Qty:=h.pos
 have ht:x.Lot.Qty≤1125899906842624:=h.top
 have hg:goodS x.Price x.Cut=true:=h.good
 rw[Qcs hg ⟨by omega,ht⟩]
 intro k
 rcases k with k|k
 ·exact k rfl
 ·omega
theorem wrong_no:∀(l:List RI)(seen:List ByteArray),(∀x∈l,It (toH x)∧covC x≤1125899906842624∧x.Asset.ISIN=x.Lot.ISIN∧x.Lot.ISIN∉seen)→l.Pairwise (fun x y=>x.Lot.ISIN≠y.Lot.ISIN)→wrongL seen l=0
 |[],_,_,_=>rfl
 |x::l,seen,h,ap=>by
  obtain⟨a,b,c,d⟩:=h x (List.mem_cons_self ..)
  obtain⟨p1,p2⟩:=List.pairwise_cons.1 ap
  simp only[wrongL]
  rw[if_neg (cov_fine a),if_neg (by omega),if_neg (by rw[c];exact fun k=>k.elim d (fun k=>k rfl))]
  refine wrong_no l _ (fun y hy => ?_) p2
  obtain⟨a',b',c',d'⟩:=h y (List.mem_cons_of_mem _ hy)
  refine⟨a',b',c',fun k => ?_⟩
  rcases List.mem_append.1 k with k|k
  ·exact d' k
  ·exact p1 y hy (by rw[List.mem_singleton.1 k,c])
theorem sum_inj (p:HI→Bool):∀(l m:List HI),l.Pairwise (fun x y=>x.Lot.ISIN≠y.Lot.ISIN)→(∀y∈l,∃z∈m,z.Lot.ISIN=y.Lot.ISIN∧p z=p y∧covH y≤covH z)→sumW p l≤sumW p m
 |[],m,_,_=>Qfs p m
 |y::l,m,ap,h=>by
  obtain⟨p1,p2⟩:=List.pairwise_cons.1 ap
  obtain⟨z,hz,e1,e2,e3⟩:=h y (List.mem_cons_self ..)
  obtain⟨A,B,rfl⟩:=List.append_of_mem hz
  have ih:=sum_inj p l (A++B) p2 (fun w hw=>by
   obtain⟨v,hv,f1,f2,f3⟩:=h w (List.mem_cons_of_mem _ hw)
   refine⟨v,?_,f1,f2,f3⟩
   rcases List.mem_append.1 hv with k|k
   ·exact List.mem_append.2 (.inl k)
   ·rcases List.mem_cons.1 k with rfl|k
    ·exact absurd (e1.symm.trans f1) (p1 w hw)
    ·exact List.mem_append.2 (.inr k))
  rw[Qb3] at ih
  simp only[Qb3,sumW]
  rw[e2]
  split<;>omega
theorem putAll_sums:∀(l:List HI)(t:zao),(putAll (l.map toR) t).issuer=t.issuer∧(putAll (l.map toR) t).asset=t.asset∧(∀k,(putAll (l.map toR) t).issuers.getD k 0=t.issuers.getD k 0+sumW (pI k) l)∧(∀k,(putAll (l.map toR) t).assets.getD k 0=t.assets.getD k 0+sumW (pA k) l)
 |[],t=>⟨rfl,rfl,fun k=>by simp[putAll,sumW],fun k=>by simp[putAll,sumW]⟩
 |x::l,t=>by
  obtain⟨h1,h2,h3,h4⟩:=putAll_sums l (putT t x.Asset (covH x))
  have e:putAll ((x::l).map toR) t=putAll (l.map toR) (putT t x.Asset (covH x)):=rfl
  rw[e]
  refine⟨h1,h2,fun k => ?_,fun k => ?_⟩
  ·rw[h3]
   simp only[putT,Qba,sumW]
   by_cases c:k=x.Asset.Issuer
   ·subst c;rw[if_pos rfl,if_pos (show pI x.Asset.Issuer x=true from decide_eq_true rfl)];omega
   ·rw[if_neg c,if_neg (show ¬ pI k x=true by unfold pI;simp;exact fun h=>c h.symm)];omega
  ·rw[h4]
   simp only[putT,Qba,sumW]
   by_cases c:k=x.Asset.ISIN
   ·subst c;rw[if_pos rfl,if_pos (show pA x.Asset.ISIN x=true from decide_eq_true rfl)];omega
   ·rw[if_neg c,if_neg (show ¬ pA k x=true by unfold pA;simp;exact fun h=>c h.symm)];omega
theorem above_nil {t:zao}(h1:∀k,t.issuers.getD k 0≤t.issuer) (h2:∀k,t.assets.getD k 0≤t.asset):aboveT t=[]:=by
 unfold aboveT
 rw[List.filter_eq_nil_iff]
 intro u hu
 rw[usesT_eq] at hu
 rcases List.mem_append.1 hu with hu|hu
 ·obtain⟨k,_,rfl⟩:=List.mem_map.1 hu
  have:=h1 k
  show ¬ decide (t.issuers.getD k 0>t.issuer)=true
  rw[decide_eq_true_eq];omega
 ·obtain⟨k,_,rfl⟩:=List.mem_map.1 hu
  have:=h2 k
  show ¬ decide (t.assets.getD k 0>t.asset)=true
  rw[decide_eq_true_eq];omega
theorem over_no {b:zat}{need:Int}{l:List HI}(hn:newOk b need) (hl:l.length≤64) (hc:∀x∈l,covH x≤1125899906842624) (hi:∀k,sumW (pI k) l≤(newT b need).issuer) (ha:∀k,sumW (pA k) l≤(newT b need).asset):ovS b need (l.map toR)=([],0):=by
 unfold ovS overS
 have e:((l.map toR).any above1)=false:=by
  rw[List.any_eq_false]
  intro x hx
  obtain⟨y,hy,rfl⟩:=List.mem_map.1 hx
  have:=hc y hy
  unfold above1
  rw[decide_eq_true_eq]
  show ¬ covH y>_
  omega
 rw[if_pos hn,if_neg (by rw[List.length_map];omega),if_neg (by rw[e];decide)]
 obtain⟨h1,h2,h3,h4⟩:=putAll_sums l (newT b need)
 rw[above_nil (fun k=>by rw[h3,h1];have:=hi k;show 0+_≤_;omega) (fun k=>by rw[h4,h2];have:=ha k;show 0+_≤_;omega)]
theorem good_no {b:zat}{need:Int}{l:List HI}(hn:newOk b need) (hl:l.length≤64) (hx:∀x∈l,It x∧covH x≤1125899906842624∧x.Asset.ISIN=x.Lot.ISIN) (ap:l.Pairwise (fun x y=>x.Lot.ISIN≠y.Lot.ISIN)) (hi:∀k,sumW (pI k) l≤(newT b need).issuer) (ha:∀k,sumW (pA k) l≤(newT b need).asset) (hs:need≤sumW pT l):goodG b (l.map toR) need=0:=by
 have w:wrongS (l.map toR)=0:=by
  unfold wrongS
  rw[if_neg (by rw[List.length_map];omega)]
  refine wrong_no _ [] (fun x hm => ?_) (List.pairwise_map.2 ap)
  obtain⟨y,hy,rfl⟩:=List.mem_map.1 hm
  obtain⟨a1,a2,a3⟩:=hx y hy
  exact⟨a1,a2,a3,by simp⟩
 have o:=over_no hn hl (fun x h=>(hx x h).2.1) hi ha
 unfold goodG
 rw[if_neg (fun k=>k w),o,if_neg (fun k=>k rfl),if_neg (by simp),Qcc,if_neg (by omega)]
theorem Qdn {s:ByteArray}:∀{l:List zab},(∀y∈l,y.ISIN≠s)→sumQ s l=0
 |[],_=>rfl
 |y::l,h=>by
  simp only[sumQ];rw[if_neg (h y (by simp)),Qdn fun z hz=>h z (by simp[hz])];rfl
theorem Qgk {y:HI}:∀{l:List HI},l.Pairwise (fun a b=>a.Lot.ISIN≠b.Lot.ISIN)→y∈l→sumQ y.Lot.ISIN (l.map (·.Lot))=y.Lot.Qty
 |z::l,ha,hy=>by
  obtain⟨a1,a2⟩:=List.pairwise_cons.1 ha
  simp only[List.map_cons,sumQ]
  rcases List.mem_cons.1 hy with rfl|hy
  ·rw[if_pos rfl,Qdn]
   ·omega
   ·intro w hw
    obtain⟨v,hv,rfl⟩:=List.mem_map.1 hw
    exact fun e=>a1 v hv e.symm
  ·rw[if_neg (a1 y hy),Qgk a2 hy];omega
theorem Qdv {s:ByteArray}:∀{l:List zab},l.Pairwise (fun x y=>sLt x.ISIN y.ISIN)→sumQ s l=qtyG s l
 |[],_=>rfl
 |y::l,h=>by
  obtain⟨h1,h2⟩:=List.pairwise_cons.1 h
  simp only[sumQ,qtyG]
  by_cases c:y.ISIN=s
  ·subst c
   rw[if_pos rfl,if_pos rfl,Qdn fun z hz e=>by have:=h1 z hz;rw[e] at this;exact Qak _ this];omega
  ·rw[if_neg c,if_neg c,Qdv h2];omega
theorem sumQ_app (s:ByteArray):∀a b:List zab,sumQ s (a++b)=sumQ s a+sumQ s b
 |[],b=>by simp[sumQ]
 |x::a,b=>by simp only[List.cons_append,sumQ,sumQ_app s a b];omega
structure Kf (r:List HI) (o:Int):Prop where
 o0:0≤spO r o
 o1:spO r o≤o
 sum:sumW pT (spK r o)=sumW pT r-o+spO r o
 q:∀y∈spK r o,0≤y.Lot.Qty∧y.Lot.Qty≤1125899906842624∧goodS y.Price y.Cut=true∧covH y=cv y.Lot.Qty y.Price y.Cut∧(1≤y.Lot.Qty→spO r o<covH y-cv (y.Lot.Qty-1) y.Price y.Cut)
 lots:∀s,sumQ s (spF r o)+sumQ s ((spK r o).map (·.Lot))=sumQ s (r.map (·.Lot))
 pos:∀b∈spF r o,1≤b.Qty∧b.Qty≤1125899906842624∧∃x∈r,x.Lot.ISIN=b.ISIN
theorem kf:∀(r:List HI)(o:Int),(∀x∈r,It x)→0≤o→Kf r o
 |[],o,_,h=>⟨h,Int.le_refl _,by simp[spK,sumW,spO];omega,by simp[spK],by simp[spF,spK,sumQ],by simp[spF]⟩
 |x::r,o,hr,h=>by
  have hx:=hr x (by simp)
  have sp:=sp_ok hx h
  have k:=kf r (spN x o) (fun y hy=>hr y (by simp[hy])) sp.n0
  have a0:=k.o0
  have a1:=k.o1
  have n1:=sp.n1
  have q0:=sp.q0
  have q1:=sp.q1
  have tp:=hx.top
  have eN:spN x o=o-covH x+covH (setQ x (spQ x o)):=rfl
  refine⟨a0,by show spO r (spN x o)≤o;omega,?_,fun y hy => ?_,fun s => ?_,fun b hb => ?_⟩
  ·have ks:=k.sum
   simp only[spK,spO,sumW,pT,if_true]
   rw[ks,eN];omega
  ·simp only[spK] at hy
   rcases List.mem_cons.1 hy with rfl|hy
   ·refine⟨q0,by show spQ x o≤_;omega,hx.good,sp.cov,fun h1 => ?_⟩
    have sm:=sp.small h1
    show spO r (spN x o)<covH (setQ x (spQ x o))-cv (spQ x o-1) x.Price x.Cut
    omega
   ·exact k.q y hy
  ·have:=k.lots s
   simp only[spF,spK,List.map_cons,sumQ,sumQ_app]
   show sumQ s (if spQ x o<x.Lot.Qty then [(⟨x.Lot.ISIN,x.Lot.Qty-spQ x o⟩:zab)] else [])+sumQ s (spF r (spN x o))+((if x.Lot.ISIN=s then spQ x o else 0)+sumQ s ((spK r (spN x o)).map (·.Lot)))=_
   by_cases c:spQ x o<x.Lot.Qty
   ·rw[if_pos c]
    simp only[sumQ]
    split<;>omega
   ·rw[if_neg c]
    simp only[sumQ]
    split<;>omega
  ·simp only[spF] at hb
   rcases List.mem_append.1 hb with hb|hb
   ·split at hb
    ·rename_i c
     have:b=⟨x.Lot.ISIN,x.Lot.Qty-spQ x o⟩:=by simpa using hb
     subst this
     exact⟨by show 1≤x.Lot.Qty-spQ x o;omega,by show x.Lot.Qty-spQ x o≤_;omega,x,by simp,rfl⟩
    ·cases hb
   ·obtain⟨b1,b2,y,hy,e⟩:=k.pos b hb
    exact⟨b1,b2,y,by simp[hy],e⟩
theorem spK_isin:∀(r:List HI)(o:Int),(spK r o).map (fun x=>x.Lot.ISIN)=r.map (fun x=>x.Lot.ISIN)
 |[],_=>rfl
 |x::r,o=>by simp only[spK,List.map_cons,spK_isin r];rfl
theorem spK_apart {r:List HI}{o:Int}(h:r.Pairwise (fun x y=>x.Lot.ISIN≠y.Lot.ISIN)):(spK r o).Pairwise (fun x y=>x.Lot.ISIN≠y.Lot.ISIN):=by
 have:(r.map (fun x=>x.Lot.ISIN)).Pairwise (· ≠ ·):=List.pairwise_map.2 h
 rw[←spK_isin r o] at this
 exact List.pairwise_map.1 this
theorem sumW_pos:∀{l:List HI},(∀y∈l,y.Lot.Qty=0→covH y=0)→(∀y∈l,0≤y.Lot.Qty)→sumW pT (l.filter (fun y=>decide (0<y.Lot.Qty)))=sumW pT l
 |[],_,_=>rfl
 |y::l,h,h2=>by
  have ih:=sumW_pos (l:=l) (fun z hz=>h z (by simp[hz])) (fun z hz=>h2 z (by simp[hz]))
  have hy:=h2 y (by simp)
  by_cases c:0<y.Lot.Qty
  ·rw[List.filter_cons_of_pos (p:=fun y:HI=>decide (0<y.Lot.Qty)) (decide_eq_true c)]
   simp only[sumW,ih]
  ·rw[List.filter_cons_of_neg (p:=fun y:HI=>decide (0<y.Lot.Qty)) (by simpa using c),ih]
   have:=h y (by simp) (by omega)
   simp only[sumW,pT,if_true]
   show _=covH y+sumW (fun _=>true) l
   have e:sumW pT l=sumW (fun _=>true) l:=rfl
   omega
theorem spare_or (l:List RI) (need:Int):(∃e,e≠0∧spareS l need=([],e))∨(∃r,spareS l need=(r,0)∧wrongS l=0∧(slackS l need).2=0∧mergeG [] (spareL l (slackS l need).1)=(r,0)):=by
 unfold spareS
 by_cases c:wrongS l≠0
 ·rw[if_pos c];exact .inl ⟨_,c,rfl⟩
 ·rw[if_neg c]
  by_cases c2:(slackS l need).2≠0
  ·rw[if_pos c2];exact .inl ⟨_,c2,rfl⟩
  ·rw[if_neg c2]
   rcases merge_or (spareL l (slackS l need).1) [] with⟨r,h⟩|⟨e,he,h⟩
   ·exact .inr ⟨r,h,Decidable.not_not.1 c,Decidable.not_not.1 c2,h⟩
   ·exact .inl ⟨e,he,h⟩
theorem plus_qty:∀(b a:List zab),Lk a→Ql b→(plusG a b).2=0→∀s,qtyG s (plusG a b).1=qtyG s a+sumQ s b
 |[],a,_,_,_,s=>by show qtyG s a=qtyG s a+0;omega
 |x::b,a,ha,hq,h,s=>by
  rcases add_or a x with⟨q,e⟩|⟨e',he,e⟩
  ·have e2:plusG a (x::b)=plusG q b:=by
    show(if (addG a x).2=0 then plusG (addG a x).1 b else([],(addG a x).2))=_
    rw[e];exact if_pos rfl
   rw[e2] at h ⊢
   have ok:=add_ok ha (hq x (List.mem_cons_self ..)) (by rw[e])
   have qa:=qtyG_add (x:=x) ha (by rw[e]) s
   rw[e] at ok qa
   have:=plus_qty b q ok (fun y hy=>hq y (List.mem_cons_of_mem _ hy)) h s
   rw[this,qa];simp only[sumQ];omega
  ·exfalso
   have e2:plusG a (x::b)=([],e'):=by
    show(if (addG a x).2=0 then plusG (addG a x).1 b else([],(addG a x).2))=_
    rw[e];exact if_neg he
   rw[e2] at h;exact he h
theorem minus_eq:∀(b a:List zab),Lk a→Ql b→(minusG a b).2=0→∀s,qtyG s (minusG a b).1=qtyG s a-sumQ s b
 |[],a,_,_,_,s=>by show qtyG s a=qtyG s a-0;omega
 |x::b,a,ha,hq,h,s=>by
  unfold minusG at h ⊢
  split at h
  ·cases h
  ·rename_i c
   rw[if_neg c]
   have hx:=hq x (List.mem_cons_self ..)
   rw[minus_eq b _ (sub_ok ha hx c) (fun y hy=>hq y (List.mem_cons_of_mem _ hy)) h s,qtyG_sub ha hx c]
   simp only[sumQ]
   by_cases k:x.ISIN=s
   ·subst k;rw[if_pos rfl];omega
   ·rw[if_neg k];omega
theorem qty_le {s:ByteArray}{l:List zab}(h:Lk l):0≤qtyG s l∧(qtyG s l=0∨∃y∈l,y.ISIN=s∧y.Qty=qtyG s l):=by
 refine⟨(Qfh h.pos).1,?_⟩
 by_cases c:∃y∈l,y.ISIN=s
 ·obtain⟨y,hy,rfl⟩:=c
  exact .inr ⟨y,hy,rfl,(Qgf h.srt hy).symm⟩
 ·exact .inl (Qc0 fun y hy e=>c ⟨y,hy,e⟩)
end Go.Proofs.YtjlkmdmaimednaaGreat.Pure
namespace Go.Proofs.YtjlkmdmaimednaaGreat.Pure
open Go Go.Ab Go.Stable Go.Proofs.YtjlkmdmaimednaaGreat.R
theorem plan_val {t:zao}{out:List HI}(h:¬ (planS t out).2≠0):mergeG [] (out.map (·.Lot))=((planS t out).1.Lots,0)∧(planS t out).1.Short=openT t:=by
 unfold planS at h ⊢
 split at h
 ·rename_i k;exact absurd k h
 ·rename_i k
  rw[if_neg k]
  refine⟨?_,rfl⟩
  show _=((mergeG [] (out.map (·.Lot))).1,0)
  rw[←Decidable.not_not.1 k]
theorem filter_q {s:ByteArray}{p:zab→Bool}:∀{l:List zab},(∀x∈l,0≤x.Qty)→sumQ s (l.filter p)≤sumQ s l
 |[],_=>Int.le_refl _
 |x::l,h=>by
  have ih:=filter_q (s:=s) (p:=p) (l:=l) fun y hy=>h y (List.mem_cons_of_mem _ hy)
  have hx:=h x (List.mem_cons_self ..)
  rw[List.filter_cons]
  split
  ·simp only[sumQ];omega
  ·simp only[sumQ];split<;>omega
theorem mem_inM {r:List KN}{b:zat}{day:Int}{l:List zab}{x:HI}(h:x∈(inM r b day l).map toH):∃u∈l,(itemS r b u day).2=0∧x=(itemS r b u day).1:=by
 rw[show(inM r b day l).map toH=isort leE (inL r b day l) from Qcc _] at h
 have h:=(Qap _).mem_iff.1 h
 obtain⟨u,hu,rfl⟩:=List.mem_map.1 h
 obtain⟨h1,h2⟩:=List.mem_filter.1 hu
 unfold takeS at h2
 rw[Bool.and_eq_true] at h2
 exact⟨u,h1,of_decide_eq_true h2.1,rfl⟩
theorem inM_q {r:List KN}{b:zat}{day:Int}{l:List zab}(hl:Lk l) (s:ByteArray):sumQ s ((inM r b day l).map (·.Lot))≤qtyG s l:=by
 have e:(inM r b day l).map (·.Lot)=(isort leE (inL r b day l)).map (·.Lot):=by unfold inM;rw[List.map_map];rfl
 have e2:(inL r b day l).map (·.Lot)=l.filter (takeS r b day):=by
  unfold inL
  rw[List.map_map]
  refine(List.map_congr_left (g:=id) fun x hx => ?_).trans (List.map_id _)
  obtain⟨h1,h2⟩:=List.mem_filter.1 hx
  unfold takeS at h2
  rw[Bool.and_eq_true] at h2
  exact Qc7 (of_decide_eq_true h2.1)
 rw[e,Qee s ((Qap (inL r b day l)).map (·.Lot)),e2,←Qdv hl.srt]
 exact filter_q fun x hx=>by have:=hl.pos x hx;omega
theorem spK_src:∀(R:List HI)(o:Int),∀y∈spK R o,∃x∈R,y=setQ x y.Lot.Qty
 |x::R,o,y,hy=>by
  simp only[spK] at hy
  rcases List.mem_cons.1 hy with rfl|hy
  ·exact⟨x,List.mem_cons_self ..,rfl⟩
  ·obtain⟨z,hz,e⟩:=spK_src R _ y hy
   exact⟨z,List.mem_cons_of_mem _ hz,e⟩
structure Tk (r:List KN) (b:zat) (day:Int) (P:List zab) (out:List HI):Prop where
 lk:Lk P
 ap:out.Pairwise (fun x y=>x.Lot.ISIN≠y.Lot.ISIN)
 q:∀s,qtyG s P=sumQ s (out.map (·.Lot))
 pos:∀y∈out,1≤y.Lot.Qty
 item:∀y∈out,∀z:zab,z.ISIN=y.Lot.ISIN→0≤z.Qty→z.Qty≤1125899906842624→itemS r b z day=(setQ y z.Qty,0)
theorem Tk.at {r:List KN}{b:zat}{day:Int}{P:List zab}{out:List HI}(h:Tk r b day P out){y:HI}(hy:y∈out):qtyG y.Lot.ISIN P=y.Lot.Qty:=by rw[h.q,Qgk h.ap hy]
theorem Tk.of {r:List KN}{b:zat}{day:Int}{P:List zab}{out:List HI}(h:Tk r b day P out){s:ByteArray}(hs:qtyG s P≠0):∃y∈out,y.Lot.ISIN=s∧y.Lot.Qty=qtyG s P:=by
 by_cases c:∃y∈out,y.Lot.ISIN=s
 ·obtain⟨y,hy,rfl⟩:=c
  exact⟨y,hy,rfl,(h.at hy).symm⟩
 ·refine absurd ?_ hs
  rw[h.q]
  exact Qdn fun z hz e=>by
   obtain⟨y,hy,rfl⟩:=List.mem_map.1 hz
   exact c ⟨y,hy,e⟩
theorem set_self {y:HI}:setQ y y.Lot.Qty=y:=rfl
theorem cov_le {y:HI}(hy:It y){q:Int}(h0:0≤q) (h1:q≤y.Lot.Qty):covH (setQ y q)≤covH y:=by
 have:=hy.top
 rw[cov_q hy.good ⟨h0,by omega⟩,cov_self hy]
 exact cv_mono hy.good h1
section
variable {r:List KN} {c:zbg} {free:List zab}
theorem top_tk (c1:¬ (checkG c.Have).2≠0) (c2:¬ (checkG free).2≠0) (c3:¬ (topG r c free).2≠0):∃t out,newOk c.Basket c.Need∧Tok t∧Ta t out∧Tk r c.Basket c.Day (topG r c free).1.Lots out∧t.issuer=(newT c.Basket c.Need).issuer∧t.asset=(newT c.Basket c.Need).asset∧(topG r c free).1.Short=max 0 (c.Need-t.sum)∧∀s,qtyG s (topG r c free).1.Lots≤qtyG s c.Have+qtyG s free:=by
 have k1:=Qb1 (Decidable.not_not.1 c1);have k2:=Qb1 (Decidable.not_not.1 c2)
 obtain⟨n1,t,out,tt,iv,e1,e2,e3,e4⟩:=top_iv c3
 have c3':¬ (planS t out).2≠0:=by rw[←e4];exact c3
 obtain⟨p1,p2⟩:=plan_val c3'
 rw[←e4] at p1 p2
 have pq:∀s,qtyG s (topG r c free).1.Lots=sumQ s (out.map (·.Lot)):=fun s=>by
  have:=(Qdx s _ [] _ Lk_nil p1).1
  rw[this];show 0+_=_;omega
 have it:∀y∈out,∀z:zab,z.ISIN=y.Lot.ISIN→0≤z.Qty→z.Qty≤1125899906842624→itemS r c.Basket z c.Day=(setQ y z.Qty,0):=fun y hy z hz h0 h1=>by
  obtain⟨x,hx,e⟩:=iv.src y hy
  have:∃u:zab,(itemS r c.Basket u c.Day).2=0∧x=(itemS r c.Basket u c.Day).1:=by
   rcases List.mem_append.1 hx with h|h
   ·obtain⟨u,_,a,b⟩:=mem_inM h;exact⟨u,a,b⟩
   ·obtain⟨u,_,a,b⟩:=mem_inM h;exact⟨u,a,b⟩
  obtain⟨u,hu,rfl⟩:=this
  have ey:y.Lot.ISIN=u.ISIN:=by
   rw[e];show(itemS r c.Basket u c.Day).1.Lot.ISIN=_;rw[Qc7 hu]
  rw[item_same hu (hz.trans ey) h0 h1,e];rfl
 refine⟨t,out,n1,tt,iv.ta,⟨top_lk c3,iv.apart,pq,fun y hy=>(iv.qb y hy).1,it⟩,e2,e3,?_,fun s => ?_⟩
 ·rw[p2];unfold openT;rw[e1]
 ·have q1:=inM_q (r:=r) (b:=c.Basket) (day:=c.Day) k1 s
  have q2:=inM_q (r:=r) (b:=c.Basket) (day:=c.Day) k2 s
  have n0:=(qty_le (s:=s) k1).1;have n3:=(qty_le (s:=s) k2).1
  rw[pq]
  by_cases d:∃y∈out,y.Lot.ISIN=s
  ·obtain⟨y,hy,rfl⟩:=d
   rw[Qgk iv.apart hy]
   have:=(iv.qb y hy).2
   show y.Lot.Qty≤_
   have:=this;omega
  ·rw[Qdn fun z hz e=>by
    obtain⟨y,hy,rfl⟩:=List.mem_map.1 hz
    exact d ⟨y,hy,e⟩]
   omega
theorem within {a:List zab}(c1:¬ (checkG c.Have).2≠0) (c2:¬ (checkG free).2≠0) (ha:Lk a) (hq:∀s,qtyG s a≤qtyG s c.Have+qtyG s free) (hp:(plusG c.Have free).2=0):Lk (plusG c.Have free).1∧(minusG (plusG c.Have free).1 a).2=0:=by
 have k1:=Qb1 (Decidable.not_not.1 c1);have k2:=Qb1 (Decidable.not_not.1 c2)
 have k3:=plus_ok _ _ k1 k2.pos hp
 refine⟨k3,(minus_qty a _ k3 ha.pos ha.srt fun s => ?_).1⟩
 rw[plus_qty free c.Have k1 k2.pos hp s,Qdv k2.srt]
 exact hq s
theorem renew_core {P S:List zab}{t:zao}{out:List HI}(n1:newOk c.Basket c.Need) (tt:Tok t) (ta:Ta t out) (tk:Tk r c.Basket c.Day P out) (e2:t.issuer=(newT c.Basket c.Need).issuer) (e3:t.asset=(newT c.Basket c.Need).asset) (c4:¬ 0<max 0 (c.Need-t.sum)) (c5:(itemsG r c.Basket c.Day P).2=0) (hs':spareS ((itemsG r c.Basket c.Day P).1.map toR) c.Need=(S,0)) (c7:(minusG P S).2=0):
  Lk (minusG P S).1∧(∀s,qtyG s (minusG P S).1≤qtyG s P)∧stateG r ⟨c.Basket,c.Need,(minusG P S).1,c.Day⟩=0:=by
 have io:=its_ok c5
 have im:=its_mk io
 obtain⟨L,hL⟩:∃L:List HI,P.map (fun x=>(itemS r c.Basket x c.Day).1)=L:=⟨_,rfl⟩
 rw[im] at hs'
 dsimp only at hs'
 rw[hL] at hs'
 have sl:Lk S:=by
  have:=spare_lk (l:=L.map toR) (need:=c.Need) (by rw[hs'];exact fun k=>k rfl)
  rwa [hs'] at this
 rcases spare_or (L.map toR) c.Need with⟨e,he,hs⟩|⟨S',hs,hw,ho,hm⟩
 ·rw[hs] at hs';exact absurd (congrArg Prod.snd hs') he
 have es:S'=S:=by rw[hs] at hs';exact congrArg Prod.fst hs'
 subst es
 have g:Good (L.map toR):=good_of hw
 have git:∀x∈L,It x:=fun x hx=>g.it x (by rw[Qcc];exact hx)
 have gcov:∀x∈L,covH x≤1125899906842624:=fun x hx=>g.cov x (by rw[Qcc];exact hx)
 have gap:L.Pairwise (fun x y=>x.Lot.ISIN≠y.Lot.ISIN):=by have:=g.apart;rwa [Qcc] at this
 have gas:∀x∈L,x.Asset.ISIN=x.Lot.ISIN:=fun x hx=>by
  unfold wrongS at hw
  split at hw
  ·cases hw
  ·exact((Qgl _ _ hw).1 (toR x) (List.mem_map.2 ⟨x,hx,rfl⟩)).2.2.1
 have gsum:sumW pT L≤72057594037927936:=by have:=g.sum;rwa [Qcc] at this
 have inL_:∀y∈out,1≤y.Lot.Qty→y∈L:=fun y hy h1=>by
  have hq:=tk.at hy
  rcases (qty_le (s:=y.Lot.ISIN) tk.lk).2 with h|⟨x,hx,ex,qx⟩
  ·omega
  ·have px:=tk.lk.pos x hx
   have:=tk.item y hy x ex (by omega) px.2
   rw[←hL]
   refine List.mem_map.2 ⟨x,hx,?_⟩
   rw[this]
   show setQ y x.Qty=y
   rw[qx,hq];rfl
 have outOf:∀x∈P,∃y∈out,y.Lot.ISIN=x.ISIN∧y.Lot.Qty=x.Qty:=fun x hx=>by
  have px:=tk.lk.pos x hx
  have qx:=Qgf tk.lk.srt hx
  obtain⟨y,hy,a,b⟩:=tk.of (s:=x.ISIN) (by omega)
  exact⟨y,hy,a,by omega⟩
 have lotL:L.map (·.Lot)=P:=by
  rw[←hL,List.map_map]
  exact(List.map_congr_left (g:=id) fun x hx=>Qc7 (io x hx).1).trans (List.map_id _)
 have ok:=minus_ok S' P tk.lk sl.pos c7
 have mq:=minus_eq S' P tk.lk sl.pos c7
 generalize hA:(minusG P S').1=A at*
 have sq:∀s,0≤sumQ s S':=fun s=>by rw[Qdv sl.srt];exact(qty_le sl).1
 have fromA:∀z∈A,∃y∈out,y.Lot.ISIN=z.ISIN∧1≤z.Qty∧z.Qty≤y.Lot.Qty∧y∈L∧itemS r c.Basket z c.Day=(setQ y z.Qty,0)∧whyS c.Basket y.Asset c.Day=0:=fun z hz=>by
  have pz:=ok.pos z hz
  have qz:=Qgf ok.srt hz
  have h1:=mq z.ISIN
  have h2:=sq z.ISIN
  obtain⟨y,hy,a,b⟩:=tk.of (s:=z.ISIN) (by omega)
  have yl:=inL_ y hy (by omega)
  refine⟨y,hy,a,pz.1,by omega,yl,tk.item y hy z a.symm (by omega) pz.2,?_⟩
  rw[←hL] at yl
  obtain⟨x,hx,ex⟩:=List.mem_map.1 yl
  have:=(io x hx).2
  rwa [ex] at this
 have iA:∀z∈A,(itemS r c.Basket z c.Day).2=0∧whyS c.Basket (itemS r c.Basket z c.Day).1.Asset c.Day=0:=fun z hz=>by
  obtain⟨y,_,_,_,_,_,e,w⟩:=fromA z hz
  rw[e];exact⟨rfl,w⟩
 have mA:=its_mk iA
 have hw':∀w∈A.map (fun x=>(itemS r c.Basket x c.Day).1),∃y∈out,y∈L∧∃q,1≤q∧q≤y.Lot.Qty∧w=setQ y q:=fun w hw=>by
  obtain⟨z,hz,rfl⟩:=List.mem_map.1 hw
  obtain⟨y,hy,a,b,d,yl,e,_⟩:=fromA z hz
  exact⟨y,hy,yl,z.Qty,b,d,by rw[e]⟩
 have apA:(A.map (fun x=>(itemS r c.Basket x c.Day).1)).Pairwise (fun x y=>x.Lot.ISIN≠y.Lot.ISIN):=by
  refine List.pairwise_map.2 (List.Pairwise.imp_of_mem (fun{a b} ha hb h e => ?_) ok.srt)
  rw[Qc7 (iA a ha).1,Qc7 (iA b hb).1] at e
  rw[e] at h;exact Qak _ h
 have eo:(slackS (L.map toR) c.Need).1=sumW pT L-c.Need:=by
  unfold slackS marS at ho ⊢
  rw[Qcc] at ho ⊢
  split at ho
  ·cases ho
  ·rename_i k;rw[if_neg k]
 have s1:sumW pT out≤sumW pT L:=sum_inj pT out L tk.ap fun y hy=>⟨y,inL_ y hy (tk.pos y hy),rfl,rfl,Int.le_refl _⟩
 have ts:=ta.s
 have o0:0≤(slackS (L.map toR) c.Need).1:=by omega
 have hm0:=hm
 unfold spareL at hm
 rw[if_neg (by omega),Qcc] at hm
 obtain⟨R,hRe⟩:∃R:List HI,R=(isort leE L).reverse:=⟨_,rfl⟩
 have pm:R.Perm L:=by rw[hRe];exact(List.reverse_perm _).trans (Qap _)
 rw[←hRe] at hm
 have hap:R.Pairwise (fun x y=>x.Lot.ISIN≠y.Lot.ISIN):=(pm.pairwise_iff (fun h e=>h e.symm)).2 gap
 have k:=kf R (slackS (L.map toR) c.Need).1 (fun x hx=>git x (pm.mem_iff.1 hx)) o0
 have rq:∀s,qtyG s S'=sumQ s (spF R (slackS (L.map toR) c.Need).1):=fun s=>by
  have:=(Qdx s _ [] S' Lk_nil hm).1
  rw[this];show 0+_=_;omega
 have aq:∀s,qtyG s A=sumQ s ((spK R (slackS (L.map toR) c.Need).1).map (·.Lot)):=fun s=>by
  have h1:=mq s
  have h2:=k.lots s
  rw[Qee s (pm.map (·.Lot)),lotL,Qdv tk.lk.srt] at h2
  rw[Qdv sl.srt,rq] at h1
  omega
 have enough:c.Need≤sumW pT (A.map (fun x=>(itemS r c.Basket x c.Day).1)):=by
  have h1:=k.sum
  rw[sumW_perm pT pm] at h1
  have h2:=k.o0
  have h3:=sumW_pos (l:=spK R (slackS (L.map toR) c.Need).1) (fun y hy hy0=>by
   have:=(k.q y hy).2.2.2.1
   rw[this,hy0];simp[cv]) (fun y hy=>(k.q y hy).1)
  have h4:=sum_inj pT ((spK R (slackS (L.map toR) c.Need).1).filter (fun y=>decide (0<y.Lot.Qty))) (A.map (fun x=>(itemS r c.Basket x c.Day).1)) ((spK_apart hap).filter _) (fun y hy=>by
   obtain⟨hy,hpos⟩:=List.mem_filter.1 hy
   have hpos:=of_decide_eq_true hpos
   obtain⟨x,hx,ex⟩:=spK_src R _ y hy
   have xl:=pm.mem_iff.1 hx
   rw[←hL] at xl
   obtain⟨u,hu,eu⟩:=List.mem_map.1 xl
   have qy:=aq y.Lot.ISIN
   rw[Qgk (spK_apart hap) hy] at qy
   rcases (qty_le (s:=y.Lot.ISIN) ok).2 with h|⟨z,hz,ez,qz⟩
   ·omega
   ·have pz:=ok.pos z hz
    have yx:y.Lot.ISIN=u.ISIN:=by
     rw[ex];show x.Lot.ISIN=_;rw[←eu,Qc7 (io u hu).1]
    have ez2:=item_same (io u hu).1 (ez.trans yx) (by omega) pz.2
    refine⟨(itemS r c.Basket z c.Day).1,List.mem_map.2 ⟨z,hz,rfl⟩,?_,rfl,?_⟩
    ·rw[Qc7 (iA z hz).1];exact ez
    ·rw[ez2,eu,qz,qy,←ex];exact Int.le_refl _)
  omega
 have gd:goodG c.Basket ((A.map (fun x=>(itemS r c.Basket x c.Day).1)).map toR) c.Need=0:=by
  refine good_no n1 (by rw[List.length_map];have:=ok.len;omega) (fun w hm => ?_) apA (fun k => ?_) (fun k => ?_) enough
  ·obtain⟨y,hy,yl,q,q1,q2,rfl⟩:=hw' w hm
   have iy:=git y yl
   have ty:=iy.top
   refine⟨⟨iy.good,q1,by show q≤_;omega⟩,?_,gas y yl⟩
   have:=cov_le iy (q:=q) (by omega) q2
   have:=gcov y yl
   omega
  ·have h1:=sum_inj (pI k) _ out apA (fun w hm=>by
    obtain⟨y,hy,yl,q,q1,q2,rfl⟩:=hw' w hm
    exact⟨y,hy,rfl,rfl,cov_le (git y yl) (by omega) q2⟩)
   have h2:=ta.i k
   have h3:=(tt.issuers k).2
   omega
  ·have h1:=sum_inj (pA k) _ out apA (fun w hm=>by
    obtain⟨y,hy,yl,q,q1,q2,rfl⟩:=hw' w hm
    exact⟨y,hy,rfl,rfl,cov_le (git y yl) (by omega) q2⟩)
   have h2:=ta.a k
   have h3:=(tt.assets k).2
   omega
 refine⟨ok,fun s => ?_,?_⟩
 ·have:=mq s;have:=sq s;omega
 ·unfold stateG
  rw[if_neg (fun h=>h (check_lk ok))]
  show(if (itemsG r c.Basket c.Day A).2≠0 then(itemsG r c.Basket c.Day A).2 else goodG c.Basket ((itemsG r c.Basket c.Day A).1.map toR) c.Need)=0
  rw[mA,if_neg (fun h=>h rfl)]
  exact gd
theorem renew_state (c1:¬ (checkG c.Have).2≠0) (c2:¬ (checkG free).2≠0) (c3:¬ (topG r c free).2≠0) (c4:¬ 0<(topG r c free).1.Short) (c5:¬ (itsG r c (topG r c free).1.Lots).2≠0) (c6:¬ (spG r c free).2≠0) (c7:(minusG (topG r c free).1.Lots (spG r c free).1).2=0):
  Lk (minusG (topG r c free).1.Lots (spG r c free).1).1∧(∀s,qtyG s (minusG (topG r c free).1.Lots (spG r c free).1).1≤qtyG s c.Have+qtyG s free)∧stateG r ⟨c.Basket,c.Need,(minusG (topG r c free).1.Lots (spG r c free).1).1,c.Day⟩=0:=by
 obtain⟨t,out,n1,tt,ta,tk,e2,e3,e4,hle⟩:=top_tk c1 c2 c3
 rw[e4] at c4
 have hs:spG r c free=((spG r c free).1,0):=by rw[←Decidable.not_not.1 c6]
 obtain⟨a1,a2,a3⟩:=renew_core n1 tt ta tk e2 e3 c4 (Decidable.not_not.1 c5) hs c7
 exact⟨a1,fun s=>Int.le_trans (a2 s) (hle s),a3⟩
theorem swap_state {x:zab}{ins:List zab}(h:(swapG r c x ins).2=0):stateG r ⟨c.Basket,c.Need,(swapG r c x ins).1,c.Day⟩=0:=by
 by_cases c1:(checkG c.Have).2≠0
 ·rw[←sw1 c1] at h;exact absurd h c1
 by_cases c2:x.Qty<1
 ·rw[←sw2 c1 c2] at h;cases h
 by_cases c3:(minusG c.Have [x]).2≠0
 ·rw[←sw3 c1 c2 c3] at h;exact absurd h c3
 by_cases c4:(mergeG [] ins).2≠0
 ·rw[←sw4 c1 c2 c3 c4] at h;exact absurd h c4
 by_cases c5:(nowG c x ins).2≠0
 ·rw[←sw5 c1 c2 c3 c4 c5] at h;exact absurd h c5
 by_cases c6:(itsG r c (nowG c x ins).1).2≠0
 ·rw[←sw6 c1 c2 c3 c4 c5 c6] at h;exact absurd h c6
 by_cases c7:goodC r c (nowG c x ins).1≠0
 ·rw[←sw7 c1 c2 c3 c4 c5 c6 c7] at h;exact absurd h c7
 ·rw[←sw8 c1 c2 c3 c4 c5 c6 c7]
  unfold stateG
  rw[if_neg (fun k=>k (check_lk (now_lk c1 c2 c3 c4 c5)))]
  show(if (itemsG r c.Basket c.Day (nowG c x ins).1).2≠0 then(itemsG r c.Basket c.Day (nowG c x ins).1).2 else goodG c.Basket ((itemsG r c.Basket c.Day (nowG c x ins).1).1.map toR) c.Need)=0
  rw[if_neg c6]
  exact Decidable.not_not.1 c7
theorem renew_or:((renewG r c free).2.2≠0∧(renewG r c free).1=[]∧(renewG r c free).2.1=0)∨((renewG r c free).2.2=0∧¬ (checkG c.Have).2≠0∧¬ (checkG free).2≠0∧Lk (renewG r c free).1∧(∀s,qtyG s (renewG r c free).1≤qtyG s c.Have+qtyG s free)∧(0<(renewG r c free).2.1∨stateG r ⟨c.Basket,c.Need,(renewG r c free).1,c.Day⟩=0)):=by
 by_cases c1:(checkG c.Have).2≠0
 ·rw[←rn1 c1];exact .inl ⟨c1,rfl,rfl⟩
 by_cases c2:(checkG free).2≠0
 ·rw[←rn2 c1 c2];exact .inl ⟨c2,rfl,rfl⟩
 by_cases c3:(topG r c free).2≠0
 ·rw[←rn3 c1 c2 c3];exact .inl ⟨c3,rfl,rfl⟩
 by_cases c4:0<(topG r c free).1.Short
 ·rw[←rn4 c1 c2 c3 c4]
  obtain⟨t,out,_,_,_,tk,_,_,_,hle⟩:=top_tk c1 c2 c3
  exact .inr ⟨rfl,c1,c2,tk.lk,hle,.inl c4⟩
 by_cases c5:(itsG r c (topG r c free).1.Lots).2≠0
 ·rw[←rn5 c1 c2 c3 c4 c5];exact .inl ⟨c5,rfl,rfl⟩
 by_cases c6:(spG r c free).2≠0
 ·rw[←rn6 c1 c2 c3 c4 c5 c6];exact .inl ⟨c6,rfl,rfl⟩
 rw[←rn7 c1 c2 c3 c4 c5 c6]
 rcases minus_or (spG r c free).1 (topG r c free).1.Lots with⟨q,e⟩|e
 ·have e2:(minusG (topG r c free).1.Lots (spG r c free).1).2=0:=by rw[e]
  obtain⟨r1,r2,r3⟩:=renew_state c1 c2 c3 c4 c5 c6 e2
  exact .inr ⟨e2,c1,c2,r1,r2,.inr r3⟩
 ·exact .inl ⟨by show(minusG (topG r c free).1.Lots (spG r c free).1).2≠0;rw[e];decide,by show(minusG (topG r c free).1.Lots (spG r c free).1).1=[];rw[e],rfl⟩
end
theorem covered_r {w:zds}{c:zbg}{x:zab}{ins:List zab}(hc:c.Basket.Cuts.length≤100000000000000000) (hN:InK .i64 c.Need):zaz_r w c x ins true:=by
 refine zaz_of ?_
 unfold zaz_w
 refine⟨_,good19 hc,?_⟩
 cases g:goodS19 c ins with
 |false=>exact Br.t rfl ⟨_,awake_r,Rt.i rfl⟩
 |true=>
  obtain⟨g1,g2,g3⟩:=of_decide_eq_true g
  have hb:=basket_ok g1
  obtain⟨q,hq,h1⟩:=book_r w
  have rest:zaz_j0 ins (bk q,q) c (fun v_=>v_=true) ():=by
   unfold zaz_j0
   refine Jn.i ⟨_,RMerge_r (by omega),Br.i (fun _=>⟨_,awake_r,Rt.i rfl⟩) (fun m1 => ?_)⟩
   have fl:=Qes m1
   have fln:=fl.len
   refine⟨_,of_r c,_,Renew_r (free:=(mergeG [] ins).1) hq hb hN (by omega) (by omega),?_⟩
   rcases renew_or (r:=q) (c:=c) (free:=(mergeG [] ins).1) with⟨e1,e2,e3⟩|⟨e1,c1,c2,al,hle,st⟩
   ·exact Br.pos e1 (Br.pos (by rw[e2];rfl) (Br.pos e3 ⟨_,awake_r,Rt.i rfl⟩))
   ·have k1:=Qb1 (Decidable.not_not.1 c1)
    have aln:=al.len
    have last:zaz_j1 (bk q,q) (renewG q c (mergeG [] ins).1) c (fun v_=>v_=true) ():=by
     unfold zaz_j1
     refine Jn.i (Br.i (fun _=>⟨_,awake_r,Rt.i rfl⟩) (fun n0 => ?_))
     have n0:¬ 0<(renewG q c (mergeG [] ins).1).2.1:=n0
     refine⟨_,RState_r (c:=⟨c.Basket,c.Need,(renewG q c (mergeG [] ins).1).1,c.Day⟩) hq hb (by show(renewG q c (mergeG [] ins).1).1.length≤_;omega),Br.pos ?_ ⟨_,awake_r,Rt.i rfl⟩⟩
     rcases st with h|h
     ·exact absurd h n0
     ·exact h
    refine Br.neg (fun h=>h e1) ⟨_,RPlus_r k1 (by omega) fl.pos,Br.i (fun p0 => ?_) (fun _=>last)⟩
    obtain⟨w1,w2⟩:=within c1 c2 al hle p0
    exact⟨_,RMinus_r w1 (by omega) (fun y hy=>(al.pos y hy).1),Br.neg (fun h=>h w2) last⟩
  refine Br.f rfl ⟨_,h1,_,of_r c,_,Swap_r hq hb hN (by omega) (by omega),Br.i (fun s0 => ?_) (fun _=>rest)⟩
  exact⟨_,RState_r (c:=⟨c.Basket,c.Need,(swapG q c x ins).1,c.Day⟩) hq hb (by have:=swap_len (r:=q) (x:=x) (ins:=ins) (c:=c) (by omega);show(swapG q c x ins).1.length≤_;omega),Br.neg (fun h=>h (swap_state s0)) rest⟩
end Go.Proofs.YtjlkmdmaimednaaGreat.Pure
