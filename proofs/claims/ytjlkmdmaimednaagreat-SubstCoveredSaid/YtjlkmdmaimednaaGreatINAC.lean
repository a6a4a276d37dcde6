import Derived.Test.YtjlkmdmaimednaaGreatAbIn
import Derived.Test.YtjlkmdmaimednaaGreatINA
set_option linter.unusedVariables false
set_option linter.unusedSimpArgs false
namespace Go.Proofs.YtjlkmdmaimednaaGreat.Pure
open Go Go.Ab Go.RowKit Go.Lib Go.Proofs Go.Shelf
set_option maxRecDepth 100000 in
set_option maxHeartbeats 2000000 in
theorem Con_insA {rows:List (List T)}{x:List T}{i:Nat}(hi:i<rows.length) (hbig:rows.length≤1000000000) (ef:Enter Tryz.prog 53):
  Con Tryz.prog 53 [.ref 620,.t (i64 i),.ref 622] [(620,.row 5 rows),(622,.row 5 [x])] (fun r o=>r = .ref 1600∧o=[(1600,.row 5 (rows.take i++[x]++rows.drop i))]):=by
 refine⟨ef,fun hid σ w us hh hu => ?_⟩
 have o0:=hh.obj 620 _ rfl
 have o2:=hh.obj 622 _ rfl
 simp only[relAs,relA,i64,rep] at hu
 obtain⟨_,_,rfl,rfl,_,_,rfl,rfl,_,_,rfl,rfl,rfl⟩:=hu
 simp only[relO] at o0 o2
 rcases o0 with⟨h0,_⟩|⟨g,cap,cur,e,hs,hc,hn,hm,hz,hr,hp⟩
 ·subst h0;simp at hi
 rcases o2 with⟨h0,_⟩|⟨g2,cap2,cur2,e2,hs2,hc2,hn2,hm2,hz2,hr2,hp2⟩
 ·cases h0
 have hne:g2≠g:=fun hq=>by
  have:=hh.dis 620 622 g rfl rfl (by rw[hs];exact Qah hp) (by rw[hs2,hq];exact Qah hp2)
  omega
 have og:own σ (ofO [(620,O.row 5 rows),(622,O.row 5 [x])]) g:=⟨620,rfl,by rw[hs];exact Qah hp⟩
 obtain⟨cs,l1,r1,c1,v1⟩:=Qbs _ _ 0 hr
 obtain⟨vs,l2,r2,c2,v2⟩:=Qbs _ _ 0 hr2
 have hm':cap≤9223372036854775807:=hm
 have l2':vs.length=5:=by simpa using l2
 have rd:∀(j:Nat) v,cs[j]? = some v→w.cell? ⟨g,j,none⟩=some v:=fun j v hj=>by
  rw[cell_of hc];simpa using v1 j v hj
 have rd2:∀(j:Nat) v,vs[j]? = some v→w.cell? ⟨g2,j,none⟩=some v:=fun j v hj=>by
  rw[cell_of hc2];simpa using v2 j v hj
 have lr:(rows.take i++[x]++rows.drop i).length=rows.length+1:=by simp;omega
 have reps:∀C',(view hid (own σ (ofO [(620,O.row 5 rows),(622,O.row 5 [x])])) w).le C'→repRows C' 5 (rows.take i++[x]++rows.drop i) (fun k=>(cs.take (i*5)++vs++cs.drop (i*5))[k]?) 0:=fun C' hC=>by
  have a1:=Qad hC _ _ _ _ 0 (fun _ _ x=>x) (rr_take i r1)
  have a2:=Qad hC _ _ _ _ 0 (fun _ _ x=>x) r2
  have a3:=Qad hC _ _ _ _ 0 (fun _ _ x=>x) (rr_drop i r1)
  have t1:(cs.take (i*5)).length=(rows.take i).length*5:=by rw[List.length_take,List.length_take,l1];omega
  exact rr_app (by rw[List.length_append,List.length_append,t1,l2',Nat.add_mul];rfl) (rr_app t1 a1 a2) a3
 rw[hs,hs2]
 by_cases room:rows.length+1≤cap
 ·refine(InsA.shift g rows.length cap i g2 cap2 cs vs w hi room hm' hne l1 l2' rd (fun j hj => ?_) (froz_of hc) rd2 c1 c2 _ _ _ _ (shape_of hc2) (shape_of hc) (by omega) (froz_of hc2)).mono ?_
  ·rw[cell_of hc,Array.getElem?_eq_getElem (by omega)];rfl
  rintro ev w' ⟨rfl,rfl⟩
  have ld:(cs.drop (i*5)).length=(rows.length-i)*5:=by rw[List.length_drop,l1];omega
  obtain⟨cur1,x1,x2,x3⟩:=Qaq (e:=e) (cs.drop (i*5)) ((i+1)*5) w.drew cur hc (by rw[ld];omega)
  obtain⟨cur3,y1,y2,y3⟩:=Qaq (e:=e) vs (i*5) _ cur1 x1 (by rw[l2',x2];omega)
  obtain⟨s1,s2,s3,s4⟩:=Qao g vs (i*5) (w.drew.setCells g ((i+1)*5) (cs.drop (i*5)))
  obtain⟨t1,t2,t3,t4⟩:=Qao g (cs.drop (i*5)) ((i+1)*5) w.drew
  refine Qd4 (P:=Tryz.prog) (g:=g) (cap:=cap) (e:=e) (cur:=cur3) hh ⟨rfl,rfl⟩ (by rw[lr]) (.inl og) y1 (by rw[lr];exact room) hm (by rw[y2,x2];exact hz) hp (fun C' hC=>Qai (reps C' hC) fun k c hk hkc => ?_)
   (by rw[s1,t1];rfl) (by rw[s2,t2];rfl) (by rw[s3,t3];rfl) (by rw[s4,t4];exact Nat.le_refl _) (fun b hb hlt=>by rw[Qat _ _ b hb,Qat _ _ b hb];rfl) rfl
  simp only[Nat.zero_add] at hkc ⊢
  rw[y3 k,l2']
  rw[lr] at hk
  by_cases k1:k<i*5
  ·rw[List.append_assoc,List.getElem?_append_left (by rw[List.length_take,l1];omega),List.getElem?_take,if_pos k1] at hkc
   rw[if_neg (by omega),x3 k,if_neg (by omega)]
   simpa using v1 k c hkc
  ·by_cases k2:k<i*5+5
   ·rw[List.append_assoc,List.getElem?_append_right (by rw[List.length_take,l1];omega),List.length_take,l1,Nat.min_eq_left (by omega),List.getElem?_append_left (by rw[l2'];omega)] at hkc
    rw[if_pos ⟨by omega,by omega⟩];exact hkc
   ·rw[List.append_assoc,List.getElem?_append_right (by rw[List.length_take,l1];omega),List.length_take,l1,Nat.min_eq_left (by omega),List.getElem?_append_right (by rw[l2'];omega),l2'] at hkc
    rw[if_neg (by omega),x3 k,ld,if_pos ⟨by omega,by omega⟩,←hkc];congr 1;omega
 ·obtain⟨ROW,G,G1,G2,G3,G4,hcall⟩:=InsA.grow g rows.length cap i g2 cap2 cs vs w hi hn (by omega) hbig l1 l2' rd rd2 c1 c2
  refine hcall.mono ?_
  rintro ev w' ⟨rfl,rfl⟩
  have ld:(cs.drop (i*5)).length=(rows.length-i)*5:=by rw[List.length_drop,l1];omega
  have hN0:(w.alloc (.cells ROW 67)).drew.heap[w.heap.size]? = some (.cells ROW 67 (0,0)):=by
   show(w.heap.push _)[w.heap.size]? = _
   simp
  obtain⟨cur1,x1,x2,x3⟩:=Qaq (e:=67) vs (i*5) (w.alloc (.cells ROW 67)).drew ROW hN0 (by rw[l2'];omega)
  obtain⟨cur3,y1,y2,y3⟩:=Qaq (e:=67) (cs.drop (i*5)) ((i+1)*5) ((w.alloc (.cells ROW 67)).drew.setCells w.heap.size (i*5) vs).drew cur1 x1 (by rw[ld,x2,G3];omega)
  obtain⟨s1,s2,s3,s4⟩:=Qao w.heap.size (cs.drop (i*5)) ((i+1)*5) ((w.alloc (.cells ROW 67)).drew.setCells w.heap.size (i*5) vs).drew
  obtain⟨t1,t2,t3,t4⟩:=Qao w.heap.size vs (i*5) (w.alloc (.cells ROW 67)).drew
  refine Qd4 (P:=Tryz.prog) (g:=w.heap.size) (cap:=G) (e:=67) (cur:=cur3) hh ⟨rfl,rfl⟩ (by rw[lr]) (.inr (Nat.le_refl _)) y1 (by rw[lr];exact G1) G2 (by rw[y2,x2];exact G3) (by omega) (fun C' hC=>Qai (reps C' hC) fun k c hk hkc => ?_)
   (by rw[s1];exact t1) (by rw[s2];exact t2) (by rw[s3];exact t3) (by rw[s4];show w.heap.size≤(World.setCells ..).heap.size;rw[t4];show w.heap.size≤(w.heap.push _).size;simp) (fun b hb hlt => ?_) rfl
  ·simp only[Nat.zero_add] at hkc ⊢
   rw[y3 k,ld]
   rw[lr] at hk
   by_cases k1:k<i*5
   ·rw[List.append_assoc,List.getElem?_append_left (by rw[List.length_take,l1];omega)] at hkc
    rw[if_neg (by omega),x3 k,if_neg (by omega)]
    rw[←G4,List.getElem?_take,if_pos k1] at hkc
    simpa using hkc
   ·by_cases k2:k<i*5+5
    ·rw[List.append_assoc,List.getElem?_append_right (by rw[List.length_take,l1];omega),List.length_take,l1,Nat.min_eq_left (by omega),List.getElem?_append_left (by rw[l2'];omega)] at hkc
     rw[if_neg (by omega),x3 k,l2',if_pos ⟨by omega,by omega⟩];exact hkc
    ·rw[List.append_assoc,List.getElem?_append_right (by rw[List.length_take,l1];omega),List.length_take,l1,Nat.min_eq_left (by omega),List.getElem?_append_right (by rw[l2'];omega),l2'] at hkc
     rw[if_pos ⟨by omega,by omega⟩,←hkc];congr 1;omega
  ·rw[Qat _ _ b hb]
   show((w.alloc (.cells ROW 67)).drew.setCells w.heap.size (i*5) vs).heap[b]? = _
   rw[Qat _ _ b hb]
   show(w.heap.push _)[b]? = _
   rw[Array.getElem?_push_lt hlt,Array.getElem?_eq_getElem hlt]
end Go.Proofs.YtjlkmdmaimednaaGreat.Pure
