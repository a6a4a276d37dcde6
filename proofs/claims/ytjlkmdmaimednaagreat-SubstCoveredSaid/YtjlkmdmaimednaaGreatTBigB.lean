/- Texts put together. -/
import Derived.Laws.BitsLemmas
import Derived.Laws.Entries
import Derived.IntWalk
import Derived.Test.YtjlkmdmaimednaaGreatRF
import Init
set_option linter.unusedVariables false
set_option linter.unusedSimpArgs false
namespace Go.Proofs.YtjlkmdmaimednaaGreat.Pure
open Go Go.Ab Go.Proofs.YtjlkmdmaimednaaGreat.R
def minusOf (a b c:Int):Bool:=(decide (a<0) != decide (b<0)) != decide (c<0)
def upOf (m:Bool)(q r d how:Int):Bool:=
 if r=0 then false else if how=1 then m else if how=2 then !m else if how=4 then(if d<2*r then true else if 2*r=d then decide (q%2=1) else false) else false
def signOf (m:Bool)(q:Int):Int×Int:=if 9223372036854775808<q∨(q=9223372036854775808∧m=false) then(0,9) else(if m=true then -q else q,0)
def mulDivS (a b c how:Int):Int×Int:=
 if c=0∨how<1∨4<how then(0,1)
 else
  let n:Int:=(a.natAbs:Int)*b.natAbs
  let d:Int:=c.natAbs
  signOf (minusOf a b c) (n/d+if upOf (minusOf a b c) (n/d) (n%d) d how=true then 1 else 0)
theorem u64 {x:Int}(h0:0≤x) (h1:x≤18446744073709551615):IntKind.u64.wrap x=x:=IntWalk.u64_in x ⟨h0,h1⟩
theorem uw (x:Int):IntKind.u64.wrap x=x%18446744073709551616:=by simp[IntKind.wrap,IntKind.bits,IntKind.signed]
theorem uwr (n:Int) (h0:0≤n) (h1:n<2 ^ 64):IntKind.u64.wrap n=n:=u64 h0 (by have:(2:Int) ^ 64=18446744073709551616:=rfl;omega)
theorem iw (x:Int) (h0 : -9223372036854775808≤x) (h1:x≤9223372036854775807):IntKind.i64.wrap x=x:=IntWalk.i64_in x ⟨h0,h1⟩
theorem size_r {n:Int}(h:InR n):zfz_r n ((n.natAbs:Int),decide (n<0)):=by
 refine zfz_of ?_
 unfold zfz_w
 refine Br.i (fun c=>Rt.i ?_) (fun c=>Rt.i ?_)
 ·rw[uw n,uw,decide_eq_true c]
  congr 1;omega
 ·rw[uw,decide_eq_false c]
  congr 1;omega
theorem Qge {x:Int}(h0:0≤x) (h1:x≤18446744073709551615):bAnd .u64 x 4294967295=x%4294967296:=
 bits_mask .u64 64 (by decide) uwr 32 (by decide) x h0 (by have:(2:Int) ^ 64=18446744073709551616:=rfl;omega)
theorem and_one {x:Int}(h0:0≤x) (h1:x≤18446744073709551615):bAnd .u64 x 1=x%2:=
 bits_mask .u64 64 (by decide) uwr 1 (by decide) x h0 (by have:(2:Int) ^ 64=18446744073709551616:=rfl;omega)
theorem fd {x d:Int}(h:0≤d):x.fdiv d=x/d:=by rw[Int.fdiv_eq_ediv_of_nonneg _ h]
theorem prod_bd {x y:Int}(x0:0≤x) (x1:x≤4294967295) (y0:0≤y) (y1:y≤4294967295):0≤x*y∧x*y≤18446744065119617025:=by
 refine⟨Int.mul_nonneg x0 y0,?_⟩
 have h1:x*y≤x*4294967295:=Int.mul_le_mul_of_nonneg_left y1 x0
 omega
theorem mul_halves (a1 a0 b1 b0:Int):(a1*4294967296+a0)*(b1*4294967296+b0)=a1*b1*18446744073709551616+(a1*b0+a0*b1)*4294967296+a0*b0:=by
 simp only[Int.add_mul,Int.mul_add]
 rw[Int.mul_assoc a1 4294967296,Int.mul_left_comm 4294967296 b1,Int.mul_left_comm a0 b1,←Int.mul_assoc a1 b1,Int.mul_assoc a1 4294967296 b0,Int.mul_left_comm a1 4294967296 b0]
 have e1:b1*(a0*4294967296)=a0*b1*4294967296:=by rw[Int.mul_comm b1,Int.mul_assoc,Int.mul_comm 4294967296,←Int.mul_assoc]
 omega
theorem Mul_r {a b:Int}(a0:0≤a) (a1:a≤18446744073709551615) (b0:0≤b) (b1:b≤18446744073709551615):zgn_r a b ⟨a*b/18446744073709551616,a*b%18446744073709551616⟩:=by
 refine zgn_of ?_
 unfold zgn_w
 refine Rt.i ?_
 simp only[fd (show(0:Int)≤4294967296 by decide),Qge a0 a1,Qge b0 b1]
 have p00:=prod_bd (x:=a%4294967296) (y:=b%4294967296) (by omega) (by omega) (by omega) (by omega)
 have p10:=prod_bd (x:=a/4294967296) (y:=b%4294967296) (by omega) (by omega) (by omega) (by omega)
 have p01:=prod_bd (x:=a%4294967296) (y:=b/4294967296) (by omega) (by omega) (by omega) (by omega)
 have p11:=prod_bd (x:=a/4294967296) (y:=b/4294967296) (by omega) (by omega) (by omega) (by omega)
 have e:a*b=a/4294967296*(b/4294967296)*18446744073709551616+(a/4294967296*(b%4294967296)+a%4294967296*(b/4294967296))*4294967296+a%4294967296*(b%4294967296):=by
  rw[←mul_halves]
  congr 1<;>omega
 have tot:0≤a*b∧a*b<340282366920938463463374607431768211456:=by
  refine⟨Int.mul_nonneg a0 b0,?_⟩
  have h1:a*b≤a*18446744073709551615:=Int.mul_le_mul_of_nonneg_left b1 a0
  omega
 generalize a*b=ab at*
 generalize a/4294967296*(b/4294967296)=w at*
 generalize a/4294967296*(b%4294967296)=x at*
 generalize a%4294967296*(b/4294967296)=y at*
 generalize a%4294967296*(b%4294967296)=z at*
 clear a0 a1 b0 b1
 rw[u64 (x:=z) (by omega) (by omega),u64 (x:=x) (by omega) (by omega),u64 (x:=y) (by omega) (by omega),u64 (x:=w) (by omega) (by omega),
  u64 (x:=x+z/4294967296) (by omega) (by omega),Qge (x:=x+z/4294967296) (by omega) (by omega),Qge (x:=z) (by omega) (by omega),
  u64 (x:=y+(x+z/4294967296)%4294967296) (by omega) (by omega),u64 (x:=w+(x+z/4294967296)/4294967296) (by omega) (by omega)]
 have hi:w+(x+z/4294967296)/4294967296+(y+(x+z/4294967296)%4294967296)/4294967296=ab/18446744073709551616:=by omega
 rw[hi,u64 (x:=ab/18446744073709551616) (by omega) (by omega),uw]
 have j:bOr .u64 _ _=_:=bits_join .u64 64 (by decide) uwr 32 ((y+(x+z/4294967296)%4294967296)*4294967296%18446744073709551616) (z%4294967296) (by omega)
  (by show _%(4294967296:Int)=0;omega) (by show _<(18446744073709551616:Int);omega) (by omega) (by show _<(4294967296:Int);omega) (by show _<(18446744073709551616:Int);omega)
 rw[j]
 congr 1
 omega
theorem shr_nat {x:Int}{n:Nat}(h:n≤63):bShr .u64 x (n:Int)=x/2 ^ n:=by
 unfold bShr
 rw[Int.toNat_natCast,Nat.min_eq_left (by show n≤64;omega),Int.fdiv_eq_ediv_of_nonneg _ (Int.le_of_lt (Int.pow_pos (by decide)))]
theorem Qff {n:Nat}(h:n≤63):(1:Int)≤2 ^ n∧(2:Int) ^ n≤9223372036854775808:=by
 refine⟨?_,?_⟩
 ·have:(0:Int)<2 ^ n:=Int.pow_pos (by decide)
  omega
 ·have h1:(2:Nat) ^ n≤2 ^ 63:=Nat.pow_le_pow_right (by decide) h
  have h2:((2 ^ n:Nat):Int)≤((2 ^ 63:Nat):Int):=Int.ofNat_le.2 h1
  simpa using h2
theorem shl_nat {n:Nat}(h:n≤63):bShl .u64 1 (n:Int)=2 ^ n:=by
 unfold bShl
 have b:=Qff h
 rw[Int.toNat_natCast,Nat.min_eq_left (by show n≤64;omega),Int.one_mul,u64 (by omega) (by omega)]
theorem or_bit {r b:Int}(_h0:0≤r) (_h1:r≤18446744073709551615) (b0:0≤b) (b1:b<2):bOr .u64 (IntKind.u64.wrap (r*2)) b=r*2%18446744073709551616+b:=by
 rw[uw]
 exact bits_join .u64 64 (by decide) uwr 1 _ b (by omega) (by show _%(2:Int)=0;omega) (by show _<(18446744073709551616:Int);omega) b0 (by show _<(2:Int);omega) (by show _<(18446744073709551616:Int);omega)
theorem or_pow {q:Int}{n:Nat}(h:n≤63) (h0:0≤q) (h1:q*2 ^ (n+1)<18446744073709551616):bOr .u64 (q*2 ^ (n+1)) (2 ^ n)=q*2 ^ (n+1)+2 ^ n:=by
 have b:=Qff h
 have p:(2:Int) ^ (n+1)=2*2 ^ n:=by rw[Int.pow_succ];omega
 exact bits_join .u64 64 (by decide) uwr (n+1) _ _ (Int.mul_nonneg h0 (by omega)) (Int.mul_emod_left _ _) (by show _<(18446744073709551616:Int);exact h1) (by omega) (by rw[p];omega) (by show _<(18446744073709551616:Int);omega)
end Go.Proofs.YtjlkmdmaimednaaGreat.Pure
namespace Go.Proofs.YtjlkmdmaimednaaGreat.Pure
open Go Go.Ab Go.Proofs.YtjlkmdmaimednaaGreat.R
theorem div_loop (w:zdu) (d x1:Int) (d0:0<d) (d1:d≤18446744073709551615) (l0:0≤w.Lo) (l1:w.Lo≤18446744073709551615){Q0:Int×Int→Prop}
  : ∀(n:Nat),n≤64→∀(q r:Int),0≤q→q*2 ^ n<18446744073709551616→0≤r→r<d→(∀N:Int,N=q*d+r→x1=N*2 ^ n+w.Lo%2 ^ n)→
  (∀Q R:Int,x1=Q*d+R→0≤R→R<d→0≤Q→Q0 (R,Q))→zcn_L0 d w Q0 r ((n:Int)-1) (q*2 ^ n)
 |0,_,q,r,q0,q1,r0,r1,hx,hQ=>by
  refine zcn_l0 ?_
  unfold zcn_w0
  refine Br.neg (by omega) (Lf.i ?_)
  have h:=hx _ rfl
  simp at h ⊢
  exact hQ q r (by omega) r0 r1 q0
 |n+1,hn,q,r,q0,q1,r0,r1,hx,hQ=>by
  have b:=Qff (n:=n) (by omega)
  have p:(2:Int) ^ (n+1)=2*2 ^ n:=by rw[Int.pow_succ];omega
  have e:((n+1:Nat):Int)-1=(n:Int):=by omega
  have en:IntKind.u64.wrap (n:Int)=(n:Int):=u64 (by omega) (by omega)
  generalize hlo:w.Lo=lo at*
  have hd:0≤lo/2 ^ n:=Int.ediv_nonneg l0 (by omega)
  have hd2:lo/2 ^ n≤lo:=Int.ediv_le_self _ l0
  have hb:=and_one hd (by omega)
  have split:lo%2 ^ (n+1)=(lo/2 ^ n%2)*2 ^ n+lo%2 ^ n:=by
   rw[p]
   have h1:=Int.emod_add_mul_ediv lo (2 ^ n)
   have h2:=Int.emod_add_mul_ediv (lo/2 ^ n) 2
   have h3:lo=(lo/2 ^ n%2)*2 ^ n+lo%2 ^ n+2*2 ^ n*(lo/2 ^ n/2):=by
    have h4:2 ^ n*(lo/2 ^ n)=2 ^ n*(lo/2 ^ n%2)+2*2 ^ n*(lo/2 ^ n/2):=by
     conv=>lhs;rw[←h2]
     rw[Int.mul_add,Int.mul_left_comm,←Int.mul_assoc]
    rw[Int.mul_comm (lo/2 ^ n%2)]
    omega
   have m0:=Int.emod_nonneg lo (show(2:Int) ^ n≠0 by omega)
   have m1:=Int.emod_lt_of_pos lo (show(0:Int)<2 ^ n by omega)
   have bb:lo/2 ^ n%2=0∨lo/2 ^ n%2=1:=by omega
   have s:0≤(lo/2 ^ n%2)*2 ^ n+lo%2 ^ n∧(lo/2 ^ n%2)*2 ^ n+lo%2 ^ n<2*2 ^ n:=by
    rcases bb with bb|bb<;>rw[bb]<;>omega
   generalize (lo/2 ^ n%2)*2 ^ n+lo%2 ^ n=t at*
   rw[h3,Int.add_mul_emod_self_left,Int.emod_eq_of_lt s.1 s.2]
  have bb:0≤lo/2 ^ n%2∧lo/2 ^ n%2<2:=by omega
  have ob:=or_bit (r:=r) (b:=lo/2 ^ n%2) r0 (by omega) bb.1 bb.2
  have xe:∀q' r':Int,q'*d+r'=2*(q*d+r)+lo/2 ^ n%2→∀N:Int,N=q'*d+r'→x1=N*2 ^ n+lo%2 ^ n:=by
   intro q' r' h N hN
   rw[hx _ rfl,hN,h,split,p]
   generalize q*d+r=M
   rw[Int.add_mul,Int.mul_left_comm,Int.mul_assoc]
   omega
  rw[e]
  refine zcn_l0 ?_
  unfold zcn_w0
  rw[hlo,en,shr_nat (show n≤63 by omega),hb,ob]
  generalize lo/2 ^ n%2=bit at*
  clear split
  have q2:2*q*2 ^ n=q*2 ^ (n+1):=by rw[p,Int.mul_left_comm,Int.mul_assoc]
  have one:2*r+bit≥d→Shf (n:Int) (Num .i64 ((n:Int)-1) (zcn_L0 d w Q0 (IntKind.wrap .u64 (r*2%18446744073709551616+bit-d)) ((n:Int)-1) (bOr .u64 (q*2 ^ (n+1)) (bShl .u64 1 (n:Int))))):=by
   intro c
   have e2:bOr .u64 (q*2 ^ (n+1)) (bShl .u64 1 (n:Int))=(2*q+1)*2 ^ n:=by
    rw[shl_nat (by omega),or_pow (by omega) q0 q1,p,Int.add_mul,Int.one_mul,Int.mul_left_comm,Int.mul_assoc]
   have e3:IntKind.u64.wrap (r*2%18446744073709551616+bit-d)=2*r+bit-d:=by rw[uw];omega
   rw[e2,e3]
   have q3:(2*q+1)*2 ^ n<18446744073709551616:=by
    rw[Int.add_mul,q2,Int.one_mul]
    have hk:(18446744073709551616:Int)=2 ^ (63-n)*2 ^ (n+1):=by
     rw[←Int.pow_add,show 63-n+(n+1)=64 by omega];rfl
    have hq:q+1≤2 ^ (63-n):=by
     rw[hk] at q1
     have:=Int.lt_of_mul_lt_mul_right q1 (by omega)
     omega
    have h5:(q+1)*2 ^ (n+1)≤2 ^ (63-n)*2 ^ (n+1):=Int.mul_le_mul_of_nonneg_right hq (by omega)
    rw[←hk,Int.add_mul,Int.one_mul] at h5
    omega
   refine⟨by omega,Num.n (by omega) (div_loop w d x1 d0 d1 (by rw[hlo];exact l0) (by rw[hlo];exact l1) n (by omega) (2*q+1) (2*r+bit-d) (by omega) q3 (by omega) (by omega) ?_ hQ)⟩
   rw[hlo]
   exact xe _ _ (by rw[Int.add_mul,Int.one_mul,Int.mul_assoc];omega)
  refine Br.pos (by omega) ⟨by omega,?_⟩
  rw[fd (show(0:Int)≤9223372036854775808 by decide)]
  refine Br.i (fun c=>one (by omega)) (fun c=>Br.i (fun c2=>one (by omega)) (fun c2=>Num.n (by omega) ?_))
  have e4:r*2%18446744073709551616+bit=2*r+bit:=by omega
  rw[e4,←q2]
  refine div_loop w d x1 d0 d1 (by rw[hlo];exact l0) (by rw[hlo];exact l1) n (by omega) (2*q) (2*r+bit) (by omega) (by rw[q2];exact q1) (by omega) (by omega) ?_ hQ
  rw[hlo]
  exact xe _ _ (by rw[Int.mul_assoc];omega)
theorem Div_r {hi lo d:Int}(h0:0≤hi) (h1:hi≤18446744073709551615) (l0:0≤lo) (l1:lo≤18446744073709551615) (d0:0<d) (d1:d≤18446744073709551615):
  ∃Q R:Int,zcn_r ⟨hi,lo⟩ d (⟨hi/d,Q⟩,R)∧R=(hi*18446744073709551616+lo)%d∧hi/d*18446744073709551616+Q=(hi*18446744073709551616+lo)/d∧0≤Q∧0≤R∧R<d:=by
 have m0:=Int.emod_nonneg hi (show d≠0 by omega)
 have m1:=Int.emod_lt_of_pos hi d0
 have key:∀Q R:Int,hi%d*18446744073709551616+lo=Q*d+R→0≤R→R<d→0≤Q→R=(hi*18446744073709551616+lo)%d∧hi/d*18446744073709551616+Q=(hi*18446744073709551616+lo)/d:=by
  intro Q R hx r0 r1 q0
  have tot:hi*18446744073709551616+lo=(hi/d*18446744073709551616+Q)*d+R:=by
   have h2:=Int.mul_ediv_add_emod hi d
   have h3:hi*18446744073709551616=hi/d*18446744073709551616*d+hi%d*18446744073709551616:=by
    conv=>lhs;rw[←h2]
    rw[Int.add_mul,Int.mul_comm d,Int.mul_assoc,Int.mul_comm d,←Int.mul_assoc]
   rw[Int.add_mul];omega
  constructor
  ·rw[tot,Int.mul_comm,Int.add_comm,Int.add_mul_emod_self_left,Int.emod_eq_of_lt r0 r1]
  ·rw[tot,Int.mul_comm _ d,Int.add_comm _ R,Int.add_mul_ediv_left _ _ (by omega),Int.ediv_eq_zero_of_lt r0 r1,Int.zero_add]
 refine⟨(hi*18446744073709551616+lo)/d-hi/d*18446744073709551616,(hi*18446744073709551616+lo)%d,?_,rfl,by omega,?_,Int.emod_nonneg _ (by omega),Int.emod_lt_of_pos _ d0⟩
 ·refine zcn_of ?_
  unfold zcn_w
  have q0:0≤hi/d:=Int.ediv_nonneg h0 (by omega)
  refine Br.neg (by omega) (Quo'.i ⟨h0,d0,h1⟩ (Rem'.i ⟨h0,d0⟩ ?_))
  have:=div_loop ⟨hi,lo⟩ d (hi%d*18446744073709551616+lo) d0 d1 l0 l1 (Q0:=fun(y1:Int×Int)=>zcn_e (fun v_=>v_=((⟨hi/d,(hi*18446744073709551616+lo)/d-hi/d*18446744073709551616⟩:zdu),(hi*18446744073709551616+lo)%d)) ((⟨hi/d,y1.2⟩:zdu),y1.1)) 64 (by omega) 0 (hi%d) (by omega) (by omega) m0 m1 (by
   intro N hN
   have:lo%2 ^ 64=lo:=Int.emod_eq_of_lt l0 (by show _<(18446744073709551616:Int);omega)
   rw[this,hN,Int.zero_mul,Int.zero_add];rfl) (by
   intro Q R hx r0 r1 q0
   obtain⟨k1,k2⟩:=key Q R hx r0 r1 q0
   refine Rt.i ?_
   rw[←k1,←k2]
   congr 2
   omega)
  simpa using this
 ·have h2:hi/d*18446744073709551616*d≤hi*18446744073709551616+lo:=by
   have h3:=Int.mul_ediv_add_emod hi d
   have h4:hi/d*18446744073709551616*d=d*(hi/d)*18446744073709551616:=by rw[Int.mul_comm d,Int.mul_assoc,Int.mul_comm _ d,←Int.mul_assoc]
   omega
  have:=(Int.le_ediv_iff_mul_le d0).2 h2
  omega
theorem up_r {q r d how:Int}(m:Bool) (q0:0≤q) (q1:q≤18446744073709551615) (r0:0≤r) (r1:r<d) (d1:d≤18446744073709551615):zgc_r q r d m how (upOf m q r d how):=by
 refine zgc_of ?_
 unfold zgc_w upOf
 rw[u64 (x:=d-r) (by omega) (by omega),and_one q0 q1]
 refine Br.i (fun c=>Rt.i (by rw[if_pos c])) (fun c0 => ?_)
 rw[if_neg c0]
 refine Br.i (fun c=>Rt.i (by rw[if_pos c])) (fun c1 => ?_)
 rw[if_neg c1]
 refine Br.i (fun c=>Rt.i (by rw[if_pos c])) (fun c2 => ?_)
 rw[if_neg c2]
 refine Br.i (fun c => ?_) (fun c3=>Rt.i (by rw[if_neg c3]))
 rw[if_pos c]
 refine Br.i (fun c4=>Rt.i (by rw[if_pos (by omega)])) (fun c4 => ?_)
 rw[if_neg (by omega)]
 refine Br.i (fun c5=>Rt.i ?_) (fun c5=>Rt.i (by rw[if_neg (by omega)]))
 rw[if_pos (by omega)]
 by_cases hq:q%2=1<;>simp[hq]
theorem signed_r {q:Int}(m:Bool) (q0:0≤q) (q1:q≤18446744073709551615):zfa_r q m (signOf m q):=by
 refine zfa_of ?_
 unfold zfa_w signOf
 cases m with
 |true=>
  refine Br.t rfl (Br.i (fun c=>Rt.i ?_) (fun c=>Br.i (fun g=>Rt.i ?_) (fun g=>Br.t rfl (Rt.i ?_))))
  ·subst c;rfl
  ·rw[if_pos (by simp;omega)]
  ·rw[if_neg (by simp;omega),if_pos rfl,iw q (by omega) (by omega),iw _ (by omega) (by omega),Int.zero_sub]
 |false=>
  refine Br.f rfl (Br.i (fun g=>Rt.i ?_) (fun g=>Br.f rfl (Rt.i ?_)))
  ·rw[if_pos (by simp;omega)]
  ·rw[if_neg (by simp;omega),if_neg (by decide),iw q (by omega) (by omega)]
theorem MulDiv_r {a b c how:Int}(ha:InR a) (hb:InR b) (hc:InR c):zev_r a b c how (mulDivS a b c how):=by
 refine zev_of ?_
 unfold zev_w mulDivS
 refine Br.i (fun c=>Rt.i (by rw[if_pos (.inl c)])) (fun c0 => ?_)
 refine Br.i (fun c=>Rt.i (by rw[if_pos (.inr (.inl c))])) (fun c1 => ?_)
 refine Br.i (fun c=>Rt.i (by rw[if_pos (.inr (.inr c))])) (fun c2 => ?_)
 rw[if_neg (by omega)]
 refine⟨_,size_r ha,_,size_r hb,_,size_r hc,?_⟩
 have ab0:0≤(a.natAbs:Int)*b.natAbs:=Int.mul_nonneg (by omega) (by omega)
 have ab1:(a.natAbs:Int)*b.natAbs≤9223372036854775808*9223372036854775808:=by
  have h1:(a.natAbs:Int)*b.natAbs≤a.natAbs*9223372036854775808:=Int.mul_le_mul_of_nonneg_left (by have:=hb.1;have:=hb.2;omega) (by omega)
  have:=ha.1;have:=ha.2
  omega
 have mm:(!((!(decide (a<0)==decide (b<0)))==decide (c<0)))=minusOf a b c:=rfl
 have ha1:=ha.1;have ha2:=ha.2;have hb1:=hb.1;have hb2:=hb.2;have hc1:=hc.1;have hc2:=hc.2
 refine⟨_,Mul_r (a:=a.natAbs) (b:=b.natAbs) (by omega) (by omega) (by omega) (by omega),?_⟩
 obtain⟨Q,R,he,hR,hQ,q0,r0,r1⟩:=Div_r (hi:=(a.natAbs:Int)*b.natAbs/18446744073709551616) (lo:=(a.natAbs:Int)*b.natAbs%18446744073709551616) (d:=c.natAbs) (by omega) (by omega) (by omega) (by omega) (by omega) (by omega)
 have back:(a.natAbs:Int)*b.natAbs/18446744073709551616*18446744073709551616+(a.natAbs:Int)*b.natAbs%18446744073709551616=(a.natAbs:Int)*b.natAbs:=by omega
 rw[back] at hR hQ
 refine⟨_,he,?_⟩
 simp only[mm]
 generalize (a.natAbs:Int)*b.natAbs=n at*
 have dpos:(0:Int)<c.natAbs:=by omega
 have dle:(c.natAbs:Int)≤9223372036854775808:=by omega
 generalize (c.natAbs:Int)=d at*
 generalize minusOf a b c=mi at*
 have qd:n/18446744073709551616/d≥0:=Int.ediv_nonneg (by omega) (by omega)
 refine Br.i (fun over=>Rt.i ?_) (fun over => ?_)
 ·have g:n/d+(if upOf mi (n/d) (n%d) d how=true then 1 else 0)>9223372036854775808:=by
   have big:n/d≥18446744073709551616:=by
    generalize n/18446744073709551616/d=t at*
    omega
   split<;>omega
  unfold signOf
  rw[if_pos (.inl g)]
 ·have z:n/18446744073709551616/d=0:=by omega
  rw[z,Int.zero_mul,Int.zero_add] at hQ
  subst hQ
  subst hR
  have nd:n/d≤18446744073709551615:=by
   have h2:n/18446744073709551616/d=n/d/18446744073709551616:=by
    rw[Int.ediv_ediv_of_nonneg (by omega),Int.ediv_ediv_of_nonneg (by omega),Int.mul_comm]
   rw[z] at h2
   omega
  refine⟨_,up_r mi q0 nd r0 r1 (by omega),?_⟩
  generalize upOf mi (n/d) (n%d) d how=u
  refine Br.b (fun hu => ?_) (fun hu => ?_)
  ·rw[if_pos hu]
   refine Br.i (fun w=>Rt.i ?_) (fun w => ?_)
   ·rw[uw] at w
    unfold signOf
    rw[if_pos (.inl (by omega))]
   ·rw[uw] at w
    have lt:n/d+1≤18446744073709551615:=by omega
    rw[u64 (by omega) lt]
    exact⟨_,signed_r _ (by omega) lt,Rt.i rfl⟩
  ·rw[if_neg (by rw[hu];decide),Int.add_zero]
   exact⟨_,signed_r _ q0 nd,Rt.i rfl⟩
end Go.Proofs.YtjlkmdmaimednaaGreat.Pure
namespace Go.Proofs.YtjlkmdmaimednaaGreat.Big
def val:List Int→Int
 |[]=>0
 |d::l=>d+65536*val l
def P (n:Nat):Int:=65536 ^ n
theorem P_zero:P 0=1:=rfl
theorem Qd2 (n:Nat):P (n+1)=65536*P n:=by unfold P;rw[Int.pow_succ];omega
theorem P_pos (n:Nat):0<P n:=by
 induction n with
 |zero=>decide
 |succ n ih=>rw[Qd2];omega
theorem P_add (a b:Nat):P (a+b)=P a*P b:=by unfold P;exact Int.pow_add _ _ _
theorem P_le {a b:Nat}(h:a≤b):P a≤P b:=by
 obtain⟨c,rfl⟩:=Nat.exists_eq_add_of_le h
 have h1:=P_pos a
 have h2:=P_pos c
 rw[P_add]
 have:P a*1≤P a*P c:=Int.mul_le_mul_of_nonneg_left (by omega) (by omega)
 omega
def Digits (l:List Int):Prop:=∀x∈l,0≤x∧x<65536
def Trimmed (l:List Int):Prop:=∀h:l≠[],l.getLast h≠0
def IsBig (l:List Int)(n:Int):Prop:=Digits l∧Trimmed l∧val l=n
theorem Digits.nil:Digits []:=by intro x h;cases h
theorem Digits.cons {d:Int}{l:List Int}(h0:0≤d) (h1:d<65536) (h:Digits l):Digits (d::l):=by
 intro x hx
 rcases List.mem_cons.1 hx with rfl|hx
 ·exact⟨h0,h1⟩
 ·exact h x hx
theorem Digits.tail {d:Int}{l:List Int}(h:Digits (d::l)):Digits l:=fun x hx=>h x (List.mem_cons_of_mem _ hx)
theorem Digits.head {d:Int}{l:List Int}(h:Digits (d::l)):0≤d∧d<65536:=h d (List.mem_cons_self ..)
theorem Digits.append {a b:List Int}(h:Digits a) (k:Digits b):Digits (a++b):=by
 intro x hx
 rcases List.mem_append.1 hx with hx|hx
 ·exact h x hx
 ·exact k x hx
theorem Digits.take {l:List Int}(h:Digits l) (n:Nat):Digits (l.take n):=fun x hx=>h x (List.mem_of_mem_take hx)
theorem Digits.drop {l:List Int}(h:Digits l) (n:Nat):Digits (l.drop n):=fun x hx=>h x (List.mem_of_mem_drop hx)
theorem Digits.get {l:List Int}(h:Digits l) (i:Nat):0≤l.getD i 0∧l.getD i 0<65536:=by
 rw[List.getD_eq_getElem?_getD]
 cases hh:l[i]? with
 |none=>simp
 |some x=>simpa using h x (List.mem_of_getElem? hh)
theorem Digits.set {l:List Int}(h:Digits l) (i:Nat){x:Int}(h0:0≤x) (h1:x<65536):Digits (l.set i x):=by
 intro y hy
 rcases List.mem_or_eq_of_mem_set hy with hy|rfl
 ·exact h y hy
 ·exact⟨h0,h1⟩
theorem Digits.zeros (n:Nat):Digits (List.replicate n 0):=by
 intro x hx
 obtain⟨_,rfl⟩:=List.mem_replicate.1 hx
 omega
theorem Qdw (a b:List Int):val (a++b)=val a+P a.length*val b:=by
 induction a with
 |nil=>simp[val,P_zero]
 |cons d a ih=>simp only[List.cons_append,val,ih,List.length_cons,Qd2];grind
theorem Qau {l:List Int}(h:Digits l):0≤val l:=by
 induction l with
 |nil=>simp[val]
 |cons d l ih=>have:=ih h.tail;have:=h.head;simp only[val];omega
theorem Qdp {l:List Int}(h:Digits l):val l<P l.length:=by
 induction l with
 |nil=>simp[val,P_zero]
 |cons d l ih=>have:=ih h.tail;have:=h.head;simp only[val,List.length_cons,Qd2];omega
theorem val_zeros (n:Nat):val (List.replicate n 0)=0:=by
 induction n with
 |zero=>rfl
 |succ n ih=>simp only[List.replicate_succ,val,ih];omega
theorem val_set {l:List Int}{i:Nat}(h:i<l.length) (x:Int):val (l.set i x)=val l+(x-l.getD i 0)*P i:=by
 induction l generalizing i with
 |nil=>simp at h
 |cons d l ih=>
  cases i with
  |zero=>simp only[List.set_cons_zero,val,List.getD_cons_zero,P_zero];omega
  |succ i=>
   simp only[List.length_cons,Nat.add_lt_add_iff_right] at h
   simp only[List.set_cons_succ,val,ih h,List.getD_cons_succ,Qd2]
   grind
theorem Qbi {l:List Int}{i:Nat}(h:i<l.length):val (l.drop i)=l.getD i 0+65536*val (l.drop (i+1)):=by
 rw[List.drop_eq_getElem_cons h]
 simp only[val]
 rw[List.getD_eq_getElem?_getD,List.getElem?_eq_getElem h]
 rfl
theorem Qag {l:List Int}{i:Nat}(h:l.length≤i):val (l.drop i)=0:=by rw[List.drop_of_length_le h];rfl
theorem Qb2 {l:List Int}{i:Nat}(h:i<l.length):val (l.take (i+1))=val (l.take i)+P i*l.getD i 0:=by
 rw[List.take_succ_eq_append_getElem h,Qdw,List.length_take,Nat.min_eq_left (Nat.le_of_lt h),List.getD_eq_getElem?_getD,List.getElem?_eq_getElem h]
 simp[val]
theorem val_split (l:List Int){i:Nat}(h:i≤l.length):val l=val (l.take i)+P i*val (l.drop i):=by
 conv=>lhs;rw[←List.take_append_drop i l]
 rw[Qdw,List.length_take,Nat.min_eq_left h]
theorem digit_zero {l:List Int}(h:Digits l){m j:Nat}(hv:val l<P m) (hj:m≤j):l.getD j 0=0:=by
 by_cases hl:j<l.length
 ·have s:=val_split l (Nat.le_of_lt hl)
  have d:=Qbi hl
  have t0:=Qau (h.take j)
  have t1:=Qau (h.drop (j+1))
  have g:=h.get j
  have p:=P_le hj
  have q:=P_pos j
  by_cases z:l.getD j 0=0
  ·exact z
  ·have:1≤val (l.drop j):=by omega
   have:P j*1≤P j*val (l.drop j):=Int.mul_le_mul_of_nonneg_left this (by omega)
   omega
 ·rw[List.getD_eq_getElem?_getD,List.getElem?_eq_none (by omega)];rfl
theorem trimmed_nil:Trimmed []:=fun h=>absurd rfl h
theorem IsBig.nil:IsBig [] 0:=⟨Digits.nil,trimmed_nil,rfl⟩
theorem IsBig.nonneg {l:List Int}{n:Int}(h:IsBig l n):0≤n:=by obtain⟨d,_,rfl⟩:=h;exact Qau d
theorem last_pos {l:List Int}(h:Digits l) (t:Trimmed l) (hl:0<l.length):P (l.length-1)≤val l:=by
 have hne:l≠[]:=by intro e;subst e;simp at hl
 have s:=val_split l (i:=l.length-1) (by omega)
 have d:=Qbi (l:=l) (i:=l.length-1) (by omega)
 rw[Qag (l:=l) (i:=l.length-1+1) (by omega)] at d
 have g:=h.get (l.length-1)
 have nz:l.getD (l.length-1) 0≠0:=by
  have:=t hne
  rw[List.getLast_eq_getElem] at this
  rw[List.getD_eq_getElem?_getD,List.getElem?_eq_getElem (by omega)]
  simpa using this
 have t0:=Qau (h.take (l.length-1))
 have q:=P_pos (l.length-1)
 have:1≤val (l.drop (l.length-1)):=by omega
 have:P (l.length-1)*1≤P (l.length-1)*val (l.drop (l.length-1)):=Int.mul_le_mul_of_nonneg_left this (by omega)
 omega
theorem IsBig.pos_iff {l:List Int}{n:Int}(h:IsBig l n):0<l.length↔0<n:=by
 obtain⟨d,t,rfl⟩:=h
 constructor
 ·intro hl
  have:=last_pos d t hl
  have:=P_pos (l.length-1)
  omega
 ·intro hv
  cases l with
  |nil=>simp[val] at hv
  |cons=>simp
theorem IsBig.len_le {l:List Int}{n:Int}(h:IsBig l n){m:Nat}(hn:n<P m):l.length≤m:=by
 obtain⟨d,t,rfl⟩:=h
 by_cases hl:l.length≤m
 ·exact hl
 ·have:=last_pos d t (by omega)
  have:=P_le (show m≤l.length-1 by omega)
  omega
theorem IsBig.lt_of_len {a b:List Int}{m n:Int}(ha:IsBig a m) (hb:IsBig b n) (h:a.length<b.length):m<n:=by
 obtain⟨da,_,rfl⟩:=ha
 obtain⟨db,tb,rfl⟩:=hb
 have h1:=Qdp da
 have h2:=last_pos db tb (by omega)
 have h3:=P_le (show a.length≤b.length-1 by omega)
 omega
theorem val_mod_two {l:List Int}:val l%2=l.getD 0 0%2:=by
 cases l with
 |nil=>rfl
 |cons d l=>simp only[val,List.getD_cons_zero];omega
end Go.Proofs.YtjlkmdmaimednaaGreat.Big
namespace Go.Proofs.YtjlkmdmaimednaaGreat.Pure
open Go Go.Ab Go.Proofs.YtjlkmdmaimednaaGreat.R Go.Proofs.YtjlkmdmaimednaaGreat.Big
theorem same_digits:∀{a b:List Int},Digits a→Digits b→a.length=b.length→val a=val b→a=b
 |[],[],_,_,_,_=>rfl
 |x::a,y::b,da,db,hl,hv=>by
  have hx:=da.head;have hy:=db.head
  simp only[val] at hv
  have e:x=y:=by omega
  subst e
  rw[same_digits da.tail db.tail (by simpa using hl) (by omega)]
 |[],_::_,_,_,hl,_=>by simp at hl
 |_::_,[],_,_,hl,_=>by simp at hl
theorem isBig_inj {a b:List Int}{n:Int}(ha:IsBig a n) (hb:IsBig b n):a=b:=by
 refine same_digits ha.1 hb.1 ?_ (by rw[ha.2.2,hb.2.2])
 rcases Nat.lt_trichotomy a.length b.length with h|h|h
 ·have:=ha.lt_of_len hb h;omega
 ·exact h
 ·have:=hb.lt_of_len ha h;omega
open Classical in
noncomputable def big (n:Int):List Int:=if h:∃r,IsBig r n then Classical.choose h else []
theorem Qgj {r:List Int}{n:Int}(h:IsBig r n):r=big n:=by
 have hx:∃r,IsBig r n:=⟨r,h⟩
 have:IsBig (big n) n:=by unfold big;rw[dif_pos hx];exact Classical.choose_spec hx
 exact isBig_inj h this
theorem gd {l:List Int}{i:Nat}(h:i<l.length):l[(i:Int).toNat]? = some (l.getD i 0):=by
 rw[Int.toNat_natCast,List.getD_eq_getElem?_getD,List.getElem?_eq_getElem h];rfl
theorem rq {k:Int}(h0:0≤k) (h1:k≤18446744073709551615):(0≤k∧(0:Int)<65536)∧(0≤k∧(0:Int)<65536∧k≤IntKind.max .u64):=by
 have:IntKind.max .u64=18446744073709551615:=by decide
 omega
theorem trim_go (l:List Int) (hl:l.length≤1000000){Q:Int→Prop}:∀n,n≤l.length→(∀m:Nat,m≤n→val (l.take m)=val (l.take n)→Trimmed (l.take m)→Q m)→zcg_L0 l Q (n:Int)
 |0,_,hQ=>by
  refine zcg_l0 ?_
  unfold zcg_w0
  exact Br.neg (by omega) (Lf.i (hQ 0 (Nat.le_refl _) rfl (by intro h;simp at h)))
 |n+1,hn,hQ=>by
  have e:((n+1:Nat):Int)-1=(n:Int):=by omega
  refine zcg_l0 ?_
  unfold zcg_w0
  rw[e]
  refine Br.pos (by omega) (Num.n (by omega) ⟨l.getD n 0,Got.i ?_ (by omega) (gd (by omega))⟩)
  refine Br.i (fun z=>Num.n (by omega) (trim_go l hl n (by omega) fun m hm hv ht=>hQ m (by omega) ?_ ht)) (fun z=>Lf.i (hQ (n+1) (Nat.le_refl _) rfl ?_))
  ·rw[hv,Qb2 (by omega),z];omega
  ·intro h
   rw[List.getLast_eq_getElem]
   have e2:(l.take (n+1)).length=n+1:=by rw[List.length_take];omega
   simp only[e2,Nat.add_sub_cancel,List.getElem_take]
   intro hz
   apply z
   rw[List.getD_eq_getElem?_getD,List.getElem?_eq_getElem (by omega)]
   simpa using hz
theorem trim_r {l:List Int}(hl:l.length≤1000000) (d:Digits l):zcg_r l (big (val l)):=by
 refine zcg_of ?_
 unfold zcg_w
 rw[Qab]
 refine trim_go l hl l.length (Nat.le_refl _) fun m hm hv ht=>CutLh.i ⟨by omega,by omega⟩ (Rt.i ?_)
 rw[Int.toNat_natCast]
 exact Qgj ⟨d.take m,ht,by rw[hv,List.take_length]⟩
theorem of_go {Q:List Int→Prop}:∀(m:Nat)(n:Int)(acc:List Int),0≤n→n<P m→n<18446744073709551616→acc.length+m≤1000000→(∀r,IsBig r n→r.length≤m→Q (acc++r))→zco_L0 Q n acc
 |0,n,acc,h0,h1,_,_,hQ=>by
  have:n=0:=by rw[P_zero] at h1;omega
  subst this
  refine zco_l0 ?_
  unfold zco_w0
  refine Br.neg (by omega) (Lf.i ?_)
  have:=hQ [] IsBig.nil (by simp)
  rwa [List.append_nil] at this
 |m+1,n,acc,h0,h1,h2,h3,hQ=>by
  refine zco_l0 ?_
  unfold zco_w0
  refine Br.i (fun z => ?_) (fun z=>Lf.i ?_)
  ·rw[Qd2] at h1
   refine Rem'.i (rq h0 (by omega)).1 (App2.i ⟨by unfold maxLen;simp;omega,by simp;omega⟩ (Quo'.i (rq h0 (by omega)).2 ?_))
   refine of_go m (n/65536) (acc++[n%65536]) (by omega) (by omega) (by omega) (by simp;omega) fun r ⟨d,t,v⟩ hr => ?_
   have:=hQ (n%65536::r) ⟨d.cons (by omega) (by omega),?_,?_⟩ (by simp;omega)
   ·simpa using this
   ·intro h
    cases r with
    |nil=>simp only[val] at v;simp only[List.getLast_singleton];omega
    |cons x xs=>rw[List.getLast_cons (by simp)];exact t (by simp)
   ·simp only[val,v];omega
  ·have:n=0:=by omega
   subst this
   have:=hQ [] IsBig.nil (by simp)
   rwa [List.append_nil] at this
theorem Of_r {n:Int}(h0:0≤n) (h1:n<18446744073709551616):zco_r n (big n):=by
 refine zco_of ?_
 unfold zco_w
 exact of_go 4 n [] h0 (by simpa[P] using h1) h1 (by simp) fun r hb _=>Rt.i (by rw[List.nil_append];exact Qgj hb)
theorem of_big {n:Int}:∀(m:Nat),0≤n→n<P m→∃r,IsBig r n∧r.length≤m
 |0,h0,h1=>⟨[],by rw[P_zero] at h1;rw[show n=0 by omega];exact IsBig.nil,by simp⟩
 |m+1,h0,h1=>by
  by_cases z:n=0
  ·subst z;exact⟨[],IsBig.nil,by simp⟩
  ·rw[Qd2] at h1
   obtain⟨r,⟨d,t,v⟩,hr⟩:=of_big (n:=n/65536) m (by omega) (by omega)
   refine⟨n%65536::r,⟨d.cons (by omega) (by omega),?_,by simp only[val,v];omega⟩,by simp;omega⟩
   intro h
   cases r with
   |nil=>simp only[val] at v;simp only[List.getLast_singleton];omega
   |cons x xs=>rw[List.getLast_cons (by simp)];exact t (by simp)
theorem Qb0 {n:Int}(m:Nat) (h0:0≤n) (h1:n<P m):IsBig (big n) n∧(big n).length≤m:=by
 obtain⟨r,h,hr⟩:=of_big m h0 h1
 rw[←Qgj h];exact⟨h,hr⟩
theorem compare_go (a b:List Int) (da:Digits a) (db:Digits b) (hab:a.length=b.length) (hl:a.length≤1000000){Q0:Int→Prop}{Q1:Unit→Prop}:∀n,n≤a.length→
  (val (a.take n)<val (b.take n)→Q0 (-1))→(val (b.take n)<val (a.take n)→Q0 1)→(val (a.take n)=val (b.take n)→Q1 ())→zbi_L0 a b Q0 Q1 ((n:Int)-1)
 |0,_,_,_,h3=>by
  refine zbi_l0 ?_
  unfold zbi_w0
  exact Br.neg (by omega) (Lf.i (h3 (by simp)))
 |n+1,hn,h1,h2,h3=>by
  have va:=Qb2 (l:=a) (i:=n) (by omega)
  have vb:=Qb2 (l:=b) (i:=n) (by omega)
  have la:=Qdp (da.take n)
  have lb:=Qdp (db.take n)
  have na:=Qau (da.take n)
  have nb:=Qau (db.take n)
  rw[List.length_take,Nat.min_eq_left (by omega)] at la lb
  have e:((n+1:Nat):Int)-1=(n:Int):=by omega
  rw[va,vb] at h1 h2 h3
  rw[e]
  have ga:=da.get n
  have gb:=db.get n
  have p:=P_pos n
  refine zbi_l0 ?_
  unfold zbi_w0
  have xa:=gd (l:=a) (i:=n) (by omega)
  have xb:=gd (l:=b) (i:=n) (by omega)
  refine Br.pos (by omega) ⟨_,Got.i ⟨_,Got.i (Br.i (fun c1=>Lf.i (h1 ?_)) (fun c1=>Got.i (Got.i (Br.i (fun c2=>Lf.i (h2 ?_)) (fun c2=>Num.n (by omega) ?_)) (by omega) xb) (by omega) xa)) (by omega) xb⟩ (by omega) xa⟩
  ·have:P n*(a.getD n 0+1)≤P n*b.getD n 0:=Int.mul_le_mul_of_nonneg_left (by omega) (by omega)
   rw[Int.mul_add] at this
   omega
  ·have:P n*(b.getD n 0+1)≤P n*a.getD n 0:=Int.mul_le_mul_of_nonneg_left (by omega) (by omega)
   rw[Int.mul_add] at this
   omega
  ·have q:a.getD n 0=b.getD n 0:=by omega
   rw[q] at h1 h2 h3
   exact compare_go a b da db hab hl n (by omega) (fun h=>h1 (by omega)) (fun h=>h2 (by omega)) (fun h=>h3 (by omega))
def cmpS (a b:List Int):Int:=if a.length≠b.length then(a.length:Int)-b.length else if val a<val b then -1 else if val b<val a then 1 else 0
theorem Compare_r {a b:List Int}{m n:Int}(ha:IsBig a m) (hb:IsBig b n) (la:a.length≤1000000) (lb:b.length≤1000000):zbi_r a b (cmpS a b):=by
 refine zbi_of ?_
 unfold zbi_w cmpS
 rw[Qab,Qab]
 refine Br.i (fun h=>Num.n (by omega) (Rt.i ?_)) (fun h=>Num.n (by omega) ?_)
 ·rw[if_pos (by omega)]
 ·rw[if_neg (by omega)]
  have h:a.length=b.length:=by omega
  have:=compare_go a b ha.1 hb.1 h la (Q0:=fun y1=>zbi_e (fun v_=>v_=if val a<val b then(-1:Int) else if val b<val a then 1 else 0) y1) (Q1:=fun _=>zbi_e (fun v_=>v_=if val a<val b then(-1:Int) else if val b<val a then 1 else 0) 0) a.length (Nat.le_refl _)
  rw[List.take_length,h,List.take_length] at this
  rw[h]
  refine this (fun c=>Rt.i (by rw[if_pos c])) (fun c=>Rt.i (by rw[if_neg (by omega),if_pos c])) (fun c=>Rt.i (by rw[if_neg (by omega),if_neg (by omega)]))
theorem cmpS_spec {a b:List Int}{m n:Int}(ha:IsBig a m) (hb:IsBig b n):(cmpS a b<0↔m<n)∧(cmpS a b=0↔m=n):=by
 unfold cmpS
 by_cases h:a.length=b.length
 ·rw[if_neg (by omega),ha.2.2,hb.2.2]
  split
  ·omega
  ·split<;>omega
 ·rw[if_pos h]
  constructor
  ·constructor
   ·intro _;exact ha.lt_of_len hb (by omega)
   ·intro hlt
    by_cases c:b.length<a.length
    ·have:=hb.lt_of_len ha c;omega
    ·omega
  ·constructor
   ·intro _;omega
   ·intro e
    rcases Nat.lt_or_gt_of_ne h with c|c
    ·have:=ha.lt_of_len hb c;omega
    ·have:=hb.lt_of_len ha c;omega
theorem add_go (a b:List Int) (da:Digits a) (db:Digits b) (la:a.length≤1000) (lb:b.length≤1000){Q:List Int→Prop}:∀(f i:Nat)(out:List Int)(c:Int),
  Digits out→out.length=i→0≤c→c≤2→(i<a.length∨i<b.length→a.length+1≤i+f∧b.length+1≤i+f)∧(c>0→1≤f)→i+f≤5000→
  (∀r,Digits r→val r=val out+P i*(c+val (a.drop i)+val (b.drop i))→r.length≤i+f→Q r)→Qfw a b Q c (i:Int) out:=by
 intro f
 induction f with
 |zero=>
  intro i out c dout hi c0 c1 hf hlim hQ
  have z:c=0:=by omega
  subst z
  refine zay_l0 ?_
  unfold zay_w0
  rw[Qab,Qab]
  refine Br.neg (by omega) (Br.neg (by omega) (Br.neg (by omega) (Lf.i (hQ out dout ?_ (by omega)))))
  rw[Qag (by omega),Qag (by omega)];simp
 |succ f ih=>
  intro i out c dout hi c0 c1 hf hlim hQ
  have ga:=da.get i
  have gb:=db.get i
  have step:∀n:Int,0≤n→n<196608→(n/65536>0→i<a.length∨i<b.length)→val out+P i*(c+val (a.drop i)+val (b.drop i))=val out+P i*(n+65536*(val (a.drop (i+1))+val (b.drop (i+1))))→
    Qfw a b Q (n/65536) (i+1:Nat) (out++[n%65536]):=by
   intro n n0 n1 hc hv
   refine ih (i+1) (out++[n%65536]) (n/65536) (dout.append (Digits.nil.cons (by omega) (by omega))) (by simp[hi]) (by omega) (by omega) (by
    refine⟨fun h => ?_,fun h => ?_⟩
    ·have:=hf.1 (by omega);omega
    ·have:=hf.1 (hc h);omega) (by omega) fun r dr hr hl=>hQ r dr ?_ (by omega)
   rw[hr,hv,Qdw,hi,Qd2]
   have e1:val [n%65536]=n%65536:=by simp[val]
   rw[e1]
   have e2:n=n%65536+65536*(n/65536):=by omega
   generalize n%65536=x at*
   generalize n/65536=y at*
   subst e2
   grind
  have last:∀n:Int,0≤n→n<196608→(n/65536>0→i<a.length∨i<b.length)→val out+P i*(c+val (a.drop i)+val (b.drop i))=val out+P i*(n+65536*(val (a.drop (i+1))+val (b.drop (i+1))))→
    zay_j11 a b (i:Int) out (Qfw a b Q) Q n:=by
   intro n n0 n1 hc hv
   have h:=step n n0 n1 hc hv
   refine Jn.i (Rem'.i (rq n0 (by omega)).1 (App2.i ⟨by unfold maxLen;simp;omega,by simp;omega⟩ (Quo'.i (rq n0 (by omega)).2 (Num.n (by omega) ?_))))
   exact h
  have mid:∀n:Int,0≤n→n≤131070→(¬ i<b.length→n/65536>0→i<a.length)→val out+P i*(c+val (a.drop i)+val (b.drop i))=val out+P i*(n+65536*val (a.drop (i+1))+val (b.drop i))→
    zay_j10 a b (i:Int) out (Qfw a b Q) Q n:=by
   intro n n0 n1 hc hv
   refine Jn.i ?_
   rw[Qab]
   refine Br.i (fun hb=>⟨_,Got.i ?_ (by omega) (gd (l:=b) (i:=i) (by omega))⟩) (fun hb => ?_)
   ·rw[u64 (by omega) (by omega)]
    have vb:=Qbi (l:=b) (i:=i) (by omega)
    exact last _ (by omega) (by omega) (fun _ => .inr (by omega)) (by rw[hv,vb];grind)
   ·have vb:=Qag (l:=b) (i:=i) (by omega)
    have vb2:=Qag (l:=b) (i:=i+1) (by omega)
    exact last _ (by omega) (by omega) (fun h => .inl (hc (by omega) h)) (by rw[hv,vb,vb2];grind)
  have first:(i<a.length∨i<b.length∨c>0)→zay_j9 a b c (i:Int) out (Qfw a b Q) Q ():=by
   intro _
   refine Jn.i ?_
   rw[Qab]
   refine Br.i (fun ha=>⟨_,Got.i ?_ (by omega) (gd (l:=a) (i:=i) (by omega))⟩) (fun ha => ?_)
   ·rw[u64 (by omega) (by omega)]
    have va:=Qbi (l:=a) (i:=i) (by omega)
    exact mid _ (by omega) (by omega) (fun _ _=>by omega) (by rw[va];grind)
   ·have va:=Qag (l:=a) (i:=i) (by omega)
    have va2:=Qag (l:=a) (i:=i+1) (by omega)
    exact mid _ (by omega) (by omega) (fun _ h=>by omega) (by rw[va,va2];grind)
  refine zay_l0 ?_
  unfold zay_w0
  rw[Qab,Qab]
  refine Br.i (fun h=>first (by omega)) (fun h1=>Br.i (fun h=>first (by omega)) (fun h2=>Br.i (fun h=>first (by omega)) (fun h3=>Lf.i (hQ out dout ?_ (by omega)))))
  have va:=Qag (l:=a) (i:=i) (by omega)
  have vb:=Qag (l:=b) (i:=i) (by omega)
  rw[va,vb,show c=0 by omega];simp
theorem Add_r {a b:List Int}{m n:Int}(ha:IsBig a m) (hb:IsBig b n) (la:a.length≤1000) (lb:b.length≤1000):zay_r a b (big (m+n)):=by
 refine zay_of ?_
 unfold zay_w
 refine add_go a b ha.1 hb.1 la lb (a.length+b.length+1) 0 [] 0 Digits.nil rfl (by omega) (by omega) (by omega) (by omega) fun r dr hr hl=>⟨_,trim_r (by omega) dr,Rt.i ?_⟩
 have:val r=m+n:=by rw[hr];simp[val,P_zero,ha.2.2,hb.2.2]
 rw[this]
theorem sub_alg (A p x y va vb ai c d:Int) (e:ai+65536-c-d=x+65536*y):A+p*x+65536*p*(va-(1-y)-vb)=A+p*(ai+65536*va-c-(d+65536*vb)):=by
 have h:ai=x+65536*y-65536+c+d:=by omega
 subst h
 clear e
 simp only[Int.mul_sub,Int.mul_add,Int.mul_one,Int.mul_assoc,Int.mul_left_comm p 65536]
 omega
theorem sub_go (a b:List Int) (da:Digits a) (db:Digits b) (la:a.length≤1000) (D:Int) (hD:0≤D){Q:List Int→Prop}(hQ:∀r,Digits r→val r=D→r.length≤a.length→Q r):∀(f i:Nat)(out:List Int)(c:Int),
  Digits out→out.length=i→0≤c→c≤1→i≤a.length→a.length-i=f→val out+P i*(val (a.drop i)-c-val (b.drop i))=D→zcp_L0 a b Q c (i:Int) out:=by
 intro f
 induction f with
 |zero=>
  intro i out c dout hi c0 c1 hia hf hv
  have e:val out=D:=by
   rw[Qag (l:=a) (by omega)] at hv
   have h1:=Qdp dout
   have h2:=Qau (db.drop i)
   rw[hi] at h1
   by_cases z:c+val (b.drop i)=0
   ·have z1:(0:Int)-c-val (b.drop i)=0:=by omega
    rw[z1] at hv;omega
   ·have:P i*(0-c-val (b.drop i))≤P i*(-1):=Int.mul_le_mul_of_nonneg_left (by omega) (by have:=P_pos i;omega)
    omega
  refine zcp_l0 ?_
  unfold zcp_w0
  rw[Qab]
  exact Br.neg (by omega) (Lf.i (hQ out dout e (by omega)))
 |succ f ih=>
  intro i out c dout hi c0 c1 hia hf hv
  have ha:i<a.length:=by clear hv ih;omega
  have hf':a.length-(i+1)=f:=by clear hv ih;omega
  have hi':i+1≤a.length:=by clear hv ih;omega
  clear hf hia
  have ga:=da.get i
  have gb:=db.get i
  have va:=Qbi ha
  have go:∀d:Int,0≤d→d<65536→val (b.drop i)=d+65536*val (b.drop (i+1))→
    zcp_L0 a b Q (1-(a.getD i 0+65536-c-d)/65536) (i+1:Nat) (out++[(a.getD i 0+65536-c-d)%65536]):=by
   intro d d0 d1 vb
   refine ih (i+1) (out++[(a.getD i 0+65536-c-d)%65536]) (1-(a.getD i 0+65536-c-d)/65536)
    (dout.append (Digits.nil.cons (by omega) (by omega))) (by simp[hi]) (by clear hv va vb;omega) (by clear hv va vb;omega) hi' hf' (by
     rw[Qdw,hi,Qd2,←hv,va,vb]
     have e1:val [(a.getD i 0+65536-c-d)%65536]=(a.getD i 0+65536-c-d)%65536:=by simp[val]
     rw[e1]
     exact sub_alg _ _ _ _ _ _ _ _ _ (by clear hv va vb;omega))
  clear hv ih
  refine zcp_l0 ?_
  unfold zcp_w0
  rw[Qab,Qab]
  refine Br.pos (by omega) ⟨_,Got.i ?_ (by omega) (gd ha)⟩
  rw[u64 (x:=a.getD i 0+65536) (by omega) (by omega),u64 (x:=a.getD i 0+65536-c) (by omega) (by omega)]
  have ap:App 8 (out.length+1):=⟨by unfold maxLen;omega,by omega⟩
  refine Br.i (fun hb=>⟨_,Got.i ?_ (by omega) (gd (l:=b) (i:=i) (by omega))⟩) (fun hb => ?_)
  ·rw[u64 (x:=a.getD i 0+65536-c-b.getD i 0) (by omega) (by omega)]
   have h:=go (b.getD i 0) (by omega) (by omega) (Qbi (by omega))
   refine Rem'.i (rq (by omega) (by omega)).1 (App2.i ap (Quo'.i (rq (by omega) (by omega)).2 (Num.n (by omega) ?_)))
   rw[u64 (by omega) (by omega)]
   exact h
  ·have h:=go 0 (by omega) (by omega) (by have z1:=Qag (l:=b) (i:=i) (by omega);have z2:=Qag (l:=b) (i:=i+1) (by omega);omega)
   rw[Int.sub_zero] at h
   refine Rem'.i (rq (by omega) (by omega)).1 (App2.i ap (Quo'.i (rq (by omega) (by omega)).2 (Num.n (by omega) ?_)))
   rw[u64 (by omega) (by omega)]
   exact h
theorem Sub_r {a b:List Int}{m n:Int}(ha:IsBig a m) (hb:IsBig b n) (la:a.length≤1000) (h:n≤m):zcp_r a b (big (m-n)):=by
 refine zcp_of ?_
 unfold zcp_w
 refine sub_go a b ha.1 hb.1 la (m-n) (by omega) (fun r dr hr hl=>⟨_,trim_r (by omega) dr,Rt.i (by rw[hr])⟩) a.length 0 [] 0 Digits.nil rfl (by omega) (by omega) (by omega) (by omega) (by
  simp only[val,P_zero,List.drop_zero,ha.2.2,hb.2.2];omega)
end Go.Proofs.YtjlkmdmaimednaaGreat.Pure
namespace Go.Proofs.YtjlkmdmaimednaaGreat.Pure
open Go Go.Ab Go.Proofs.YtjlkmdmaimednaaGreat.R Go.Proofs.YtjlkmdmaimednaaGreat.Big
theorem sq_bd {x y:Int}(x0:0≤x) (x1:x<65536) (y0:0≤y) (y1:y<65536):0≤x*y∧x*y≤4294836225:=by
 constructor
 ·exact Int.mul_nonneg x0 y0
 ·have h1:x*y≤x*65535:=Int.mul_le_mul_of_nonneg_left (by omega) x0
  omega
theorem mul_alg (A p o c ai bk vb x y:Int) (e:o+c+ai*bk=x+65536*y):A+(x-o)*p+65536*p*y+65536*p*(ai*vb)=A+p*c+p*(ai*(bk+65536*vb)):=by
 have e1:(x-o)*p=p*c+p*(ai*bk)-65536*(p*y):=by
  rw[show x-o=c+ai*bk-65536*y by omega,Int.mul_comm]
  simp only[Int.mul_sub,Int.mul_add,Int.mul_left_comm p 65536]
 have e2:65536*p*y=65536*(p*y):=Int.mul_assoc _ _ _
 have e3:65536*p*(ai*vb)=65536*(p*(ai*vb)):=Int.mul_assoc _ _ _
 have e4:p*(ai*(bk+65536*vb))=p*(ai*bk)+65536*(p*(ai*vb)):=by
  simp only[Int.mul_add,Int.mul_left_comm ai 65536,Int.mul_left_comm p 65536]
 omega
theorem mul_alg0 (A p c ai x y:Int) (e:c=x+65536*y):A+(x-0)*p+65536*p*y+65536*p*(ai*0)=A+p*c+p*(ai*0):=by
 subst e
 have e1:(x-0)*p=p*x:=by rw[Int.sub_zero,Int.mul_comm]
 have e2:65536*p*y=65536*(p*y):=Int.mul_assoc _ _ _
 have e3:p*(x+65536*y)=p*x+65536*(p*y):=by simp only[Int.mul_add,Int.mul_left_comm p 65536]
 simp only[Int.mul_zero]
 omega
def Same (a b:Int):Prop:=a=b
theorem mul_row (a b:List Int) (da:Digits a) (db:Digits b) (la:a.length≤1000) (lb:b.length≤1000) (i:Nat) (hi:i<a.length) (V:Int){Q:List Int→Prop}
  (hend:∀o:List Int,Digits o→o.length=a.length+b.length+1→val o=V→Q o):
  ∀(f k:Nat)(out:List Int)(c:Int),Digits out→out.length=a.length+b.length+1→0≤c→c<65536→k≤b.length+1→(c>0→k≤b.length)→k+f=b.length+1→
   (∀j,i+k≤j→i+b.length≤j→out.getD j 0=0)→Same (val out+P (i+k)*c+P (i+k)*(a.getD i 0*val (b.drop k))) V→zbk_L1 a b (i:Int) Q c (k:Int) out:=by
 intro f
 induction f with
 |zero=>
  intro k out c dout ho c0 c1 hk hck hf hz hv
  have z:c=0:=by omega
  subst z
  refine zbk_l1 ?_
  unfold zbk_w1
  rw[Qab]
  refine Br.neg (by omega) (Br.neg (by omega) (Lf.i (hend out dout ho ?_)))
  have h2:_=V:=hv
  rw[Qag (by omega)] at h2;simpa using h2
 |succ f ih=>
  intro k out c dout ho c0 c1 hk hck hf hz hv
  have eik:(i:Int)+(k:Int)=((i+k:Nat):Int):=by omega
  have go:=dout.get (i+k)
  have ga:=da.get i
  refine zbk_l1 ?_
  unfold zbk_w1
  rw[Qab,eik]
  by_cases hb:k<b.length
  ·have gb:=db.get k
   have vb:=Qbi hb
   obtain⟨s0,s1⟩:=sq_bd ga.1 ga.2 gb.1 gb.2
   have n1:=ih (k+1) (out.set (i+k) ((out.getD (i+k) 0+c+a.getD i 0*b.getD k 0)%65536)) ((out.getD (i+k) 0+c+a.getD i 0*b.getD k 0)/65536)
    (dout.set _ (by omega) (by omega)) (by simpa using ho) (by omega) (by omega) (by omega) (by omega) (by omega)
    (fun j h1 h2=>by rw[List.getD_eq_getElem?_getD,List.getElem?_set_ne (by omega),←List.getD_eq_getElem?_getD];exact hz j (by omega) h2) (by
     have h2:_=V:=hv
     show _=V
     rw[val_set (by omega),←h2,vb,show i+(k+1)=i+k+1 by omega,Qd2]
     exact mul_alg _ _ _ _ _ _ _ _ _ (by omega))
   have xo:=gd (l:=out) (i:=i+k) (by omega)
   have lt:(((i+k:Nat):Int)).toNat<out.length:=by rw[Int.toNat_natCast];omega
   refine Br.pos (by omega) (Num.n (by omega) (InL.i ⟨_,EltG.i (Br.pos (by omega) ⟨_,Got.i ⟨_,Got.i (Num.n (by omega) ?_) (by omega) (gd hb)⟩ (by omega) (gd hi)⟩) xo⟩ (by omega) lt))
   rw[u64 (x:=out.getD (i+k) 0+c) (by omega) (by omega),u64 (x:=a.getD i 0*b.getD k 0) (by omega) (by omega),u64 (x:=out.getD (i+k) 0+c+a.getD i 0*b.getD k 0) (by omega) (by omega)]
   refine Rem'.i (rq (by omega) (by omega)).1 (InL.i (EltS.i (Quo'.i (rq (by omega) (by omega)).2 (Num.n (by omega) ?_)) xo) (by omega) lt)
   rw[Int.toNat_natCast]
   exact n1
  ·have vb:=Qag (l:=b) (i:=k) (by omega)
   have vb2:=Qag (l:=b) (i:=k+1) (by omega)
   have oz:out.getD (i+k) 0=0:=hz (i+k) (Nat.le_refl _) (by omega)
   refine Br.neg (by omega) (Br.i (fun cz => ?_) (fun cz=>Lf.i (hend out dout ho ?_)))
   ·have:=hck (by omega)
    have n1:=ih (k+1) (out.set (i+k) (c%65536)) (c/65536)
     (dout.set _ (by omega) (by omega)) (by simpa using ho) (by omega) (by omega) (by omega) (by omega) (by omega)
     (fun j h1 h2=>by rw[List.getD_eq_getElem?_getD,List.getElem?_set_ne (by omega),←List.getD_eq_getElem?_getD];exact hz j (by omega) h2) (by
      have h2:_=V:=hv
      show _=V
      rw[val_set (by omega),←h2,vb,vb2,oz,show i+(k+1)=i+k+1 by omega,Qd2]
      exact mul_alg0 _ _ _ _ _ _ (by omega))
    have xo:=gd (l:=out) (i:=i+k) (by omega)
    rw[oz] at xo
    have lt:(((i+k:Nat):Int)).toNat<out.length:=by rw[Int.toNat_natCast];omega
    refine Num.n (by omega) (InL.i ⟨_,EltG.i (Br.neg (by omega) (Num.n (by omega) ?_)) xo⟩ (by omega) lt)
    rw[Int.zero_add,u64 (x:=c) (by omega) (by omega)]
    refine Rem'.i (rq (by omega) (by omega)).1 (InL.i (EltS.i (Quo'.i (rq (by omega) (by omega)).2 (Num.n (by omega) ?_)) xo) (by omega) lt)
    rw[Int.toNat_natCast]
    exact n1
   ·have z:c=0:=by omega
    subst z
    have h2:_=V:=hv
    rw[vb] at h2;simpa using h2
theorem mul_go (a b:List Int) (da:Digits a) (db:Digits b) (la:a.length≤1000) (lb:b.length≤1000){Q:List Int→Prop}(hQ:∀o,Digits o→o.length=a.length+b.length+1→val o=val a*val b→Q o):∀(f i:Nat)(out:List Int),i+f=a.length→Digits out→out.length=a.length+b.length+1→Same (val out) (val (a.take i)*val b)→zbk_L0 a b Q (i:Int) out:=by
 intro f
 induction f with
 |zero=>
  intro i out hi dout ho hv
  have e:a.take i=a:=by rw[List.take_of_length_le (by omega)]
  have h2:_=_:=hv
  rw[e] at h2
  refine zbk_l0 ?_
  unfold zbk_w0
  rw[Qab]
  exact Br.neg (by omega) (Lf.i (hQ out dout ho h2))
 |succ f ih=>
  intro i out hi dout ho hv
  have hlt:i<a.length:=by omega
  have hbound:val out<P (i+b.length):=by
   have h2:_=_:=hv
   rw[h2,P_add]
   have h1:=Qdp (da.take i)
   have h2:=Qdp db
   have h3:=Qau (da.take i)
   have h4:=Qau db
   have h5:=P_pos i
   rw[List.length_take,Nat.min_eq_left (by omega)] at h1
   have h6:val (a.take i)*val b≤P i*val b:=Int.mul_le_mul_of_nonneg_right (by omega) h4
   have h7:P i*(val b+1)≤P i*P b.length:=Int.mul_le_mul_of_nonneg_left (by omega) (by omega)
   rw[Int.mul_add] at h7
   clear h2 hv ih
   omega
  refine zbk_l0 ?_
  unfold zbk_w0
  rw[Qab]
  refine Br.pos (by omega) ?_
  refine mul_row a b da db la lb i hlt (val (a.take (i+1))*val b) (fun o d0 h0 v0=>Num.n (by omega) (ih (i+1) o (by omega) d0 h0 v0)) (b.length+1) 0 out 0 dout ho (by omega) (by omega) (by omega) (by omega) (by omega)
   (fun j _ h2=>digit_zero dout hbound h2) ?_
  have h2:_=_:=hv
  show _=_
  rw[Qb2 hlt,h2,Nat.add_zero,List.drop_zero,Int.mul_zero,Int.add_zero,Int.add_mul,Int.mul_assoc]
theorem BMul_r {a b:List Int}{m n:Int}(ha:IsBig a m) (hb:IsBig b n) (la:a.length≤1000) (lb:b.length≤1000):zbk_r a b (big (m*n)):=by
 refine zbk_of ?_
 unfold zbk_w
 rw[Qab,Qab]
 refine Num.n (by omega) (Num.n (by omega) (MkN.i ⟨by omega,by omega,by unfold maxLen;omega⟩ ?_))
 refine mul_go a b ha.1 hb.1 la lb (fun o d ho hv=>⟨_,trim_r (by omega) d,Rt.i (by rw[hv,ha.2.2,hb.2.2])⟩) a.length 0 _ (by omega) (Digits.zeros _) (by rw[List.length_replicate];omega) ?_
 show _=_
 rw[val_zeros];simp[val]
theorem div_row (a b q rest:List Int) (i:Int) (vb R:Int) (hb:IsBig b vb) (hr:IsBig rest R) (lb:b.length≤900) (lr:rest.length≤1000){Q:Int→Prop}
  (hend:∀d:Int,0≤d→d<65536→d*vb≤R→R-d*vb<vb→Q d):
  ∀(n:Nat)(lo hi:Int),0≤lo→lo<hi→hi≤65536→hi-lo≤2 ^ n→lo*vb≤R→R<hi*vb→zbn_L1 a b rest i q Q lo hi:=by
 intro n
 induction n with
 |zero=>
  intro lo hi0 l0 l1 l2 l3 l4 l5
  have e:hi0=lo+1:=by simp at l3;omega
  subst e
  refine zbn_l1 ?_
  unfold zbn_w1
  rw[u64 (x:=lo+1-lo) (by omega) (by omega)]
  refine Br.neg (by omega) (Lf.i (hend lo l0 (by omega) l4 ?_))
  rw[Int.add_mul,Int.one_mul] at l5;omega
 |succ n ih=>
  intro lo hi0 l0 l1 l2 l3 l4 l5
  by_cases c:hi0-lo>1
  ·have m0:lo<(lo+hi0)/2:=by omega
   have m1:(lo+hi0)/2<hi0:=by omega
   have p:(2:Int) ^ (n+1)=2*2 ^ n:=by rw[Int.pow_succ];omega
   rw[p] at l3
   have p4:P 4=18446744073709551616:=by decide
   have bx:=Qb0 (n:=(lo+hi0)/2) 4 (by omega) (by omega)
   have bv:=hb.nonneg
   have hy:=BMul_r bx.1 hb (by omega) (by omega)
   have R0:=hr.nonneg
   have by_:IsBig (big ((lo+hi0)/2*vb)) ((lo+hi0)/2*vb)∧(big ((lo+hi0)/2*vb)).length≤4+b.length:=by
    refine Qb0 _ (Int.mul_nonneg (by omega) bv) ?_
    rw[P_add]
    have h1:=Qdp hb.1
    rw[hb.2.2] at h1
    have h2:=P_pos b.length
    have h3:(lo+hi0)/2*vb≤65536*vb:=Int.mul_le_mul_of_nonneg_right (by omega) bv
    rw[p4]
    omega
   refine zbn_l1 ?_
   unfold zbn_w1
   rw[u64 (x:=hi0-lo) (by omega) (by omega),u64 (x:=lo+hi0) (by omega) (by omega)]
   refine Br.pos (by omega) (Quo'.i (by have:=(rq (k:=lo+hi0) (by omega) (by omega)).2;omega) ⟨_,Of_r (by omega) (by omega),_,hy,_,Compare_r by_.1 hr (by omega) (by omega),?_⟩)
   obtain⟨c1,c2⟩:=cmpS_spec by_.1 hr
   refine Br.i (fun le=>ih ((lo+hi0)/2) hi0 (by omega) m1 l2 (by omega) (by omega) l5) (fun le=>ih lo ((lo+hi0)/2) l0 m0 (by omega) (by omega) l4 (by omega))
  ·exact ih lo hi0 l0 l1 l2 (by have h:(0:Int)<2 ^ n:=Int.pow_pos (by decide);omega) l4 l5
theorem div_alg (d V W vb R ai:Int):ai+65536*(V*vb+R)=(d+65536*V)*vb+(ai+65536*R-d*vb)+0*W:=by
 rw[Int.add_mul,Int.mul_add,Int.mul_assoc,Int.zero_mul];omega
theorem div_go (a b:List Int) (da:Digits a) (la:a.length≤800) (vb:Int) (hb:IsBig b vb) (hp:0<vb) (lb:b.length≤900){Q:List Int×List Int→Prop}
  (hQ:∀(q rest:List Int)(R':Int),Digits q→q.length=a.length→IsBig rest R'→R'<vb→val a=val q*vb+R'→Q (rest,q)):∀(n:Nat)(q rest:List Int)(R:Int),n≤a.length→Digits q→q.length=a.length→IsBig rest R→R<vb→Same (val (a.drop n)) (val (q.drop n)*vb+R)→zbn_L0 a b Q rest ((n:Int)-1) q:=by
 intro n
 induction n with
 |zero=>
  intro q rest R hn dq hq hr hR hv
  refine zbn_l0 ?_
  unfold zbn_w0
  exact Br.neg (by omega) (Lf.i (hQ q rest R dq hq hr hR hv))
 |succ n ih=>
  intro q rest R hn dq hq hr hR hv
  have ga:=da.get n
  have R0:=hr.nonneg
  have e:((n+1:Nat):Int)-1=(n:Int):=by omega
  have vlt:=Qdp hb.1
  rw[hb.2.2] at vlt
  have rl:rest.length≤b.length:=hr.len_le (by omega)
  have dt:Digits ([a.getD n 0]++rest):=(Digits.nil.cons ga.1 ga.2).append hr.1
  have ht:=trim_r (l:=[a.getD n 0]++rest) (by simp;omega) dt
  have vt:val ([a.getD n 0]++rest)=a.getD n 0+65536*R:=by simp[val,hr.2.2]
  have lt:=Qdp dt
  rw[vt] at ht lt
  have bt:=Qb0 (n:=a.getD n 0+65536*R) _ (by omega) lt
  have bl:(big (a.getD n 0+65536*R)).length≤1000:=by
   have h:=bt.2
   rw[List.length_append,List.length_singleton] at h
   omega
  refine zbn_l0 ?_
  unfold zbn_w0
  rw[e]
  refine Br.pos (by omega) ⟨_,Got.i (App2.i ⟨by unfold maxLen;simp;omega,by simp;omega⟩ ⟨_,ht,?_⟩) (by omega) (gd (by omega))⟩
  refine div_row a b q _ n vb (a.getD n 0+65536*R) hb bt.1 lb bl (fun d d0 d1 h1 h2 => ?_) 16 0 65536 (by omega) (by omega) (by omega) (by decide) (by omega) (by omega)
  have xq:=gd (l:=q) (i:=n) (by omega)
  have p4:P 4=18446744073709551616:=by decide
  have bd:=Qb0 (n:=d) 4 (by omega) (by omega)
  have bv:=hb.nonneg
  have hy:=BMul_r bd.1 hb (by omega) (by omega)
  have by_:=Qb0 (n:=d*vb) (4+b.length) (Int.mul_nonneg d0 bv) (by
   rw[P_add]
   have h2:=P_pos b.length
   have h3:d*vb≤65536*vb:=Int.mul_le_mul_of_nonneg_right (by omega) bv
   rw[p4]
   omega)
  have hs:=Sub_r bt.1 by_.1 bl h1
  have bz:=Qb0 (n:=a.getD n 0+65536*R-d*vb) b.length (by omega) (by omega)
  refine InL.i ⟨_,EltS.i ⟨_,Of_r d0 (by omega),_,hy,_,hs,Num.n (by omega) ?_⟩ xq⟩ (by omega) (by rw[Int.toNat_natCast];omega)
  rw[Int.toNat_natCast]
  refine ih (q.set n d) _ _ (by omega) (dq.set n d0 d1) (by simpa using hq) bz.1 h2 ?_
  have h2:_=_:=hv
  show _=_
  rw[Qbi (l:=a) (i:=n) (by omega),Qbi (l:=q.set n d) (i:=n) (by simp;omega),h2]
  have e1:(q.set n d).getD n 0=d:=by
   rw[List.getD_eq_getElem?_getD,List.getElem?_set_self (by omega)];rfl
  have e2:(q.set n d).drop (n+1)=q.drop (n+1):=by rw[List.drop_set_of_lt (by omega)]
  rw[e1,e2]
  have h3:=div_alg d (val (q.drop (n+1))) 0 vb R (a.getD n 0)
  rw[h3];omega
theorem BDiv_r {a b:List Int}{m n:Int}(ha:IsBig a m) (hb:IsBig b n) (hp:0<n) (la:a.length≤800) (lb:b.length≤900):zbn_r a b (big (m/n),big (m%n)):=by
 refine zbn_of ?_
 unfold zbn_w
 rw[Qab]
 refine MkN.i ⟨by omega,by omega,by unfold maxLen;omega⟩ (Num.n (by omega) ?_)
 refine div_go a b ha.1 la n hb hp lb (fun q rest R dq hq hr hR hv=>⟨_,trim_r (l:=q) (by omega) dq,Rt.i ?_⟩) a.length _ [] 0 (Nat.le_refl _) (Digits.zeros _) (by rw[List.length_replicate];omega) IsBig.nil hp (by
  show _=_
  rw[Qag (Nat.le_refl _),Qag (by rw[List.length_replicate];omega)];simp)
 rw[ha.2.2] at hv
 have R0:=hr.nonneg
 have q1:m/n=val q:=by
  rw[hv,Int.mul_comm,Int.add_comm,Int.add_mul_ediv_left _ _ (by omega),Int.ediv_eq_zero_of_lt R0 hR];omega
 have r1:m%n=R:=by
  rw[hv,Int.mul_comm,Int.add_comm,Int.add_mul_emod_self_left,Int.emod_eq_of_lt R0 hR]
 rw[q1,r1,Qgj hr]
theorem halves_go (l:List Int) (d:Digits l) (hl:l.length≤8){Q:Int×Int→Prop}(hQ:Q (val (l.drop 4),val (l.take 4))):∀n,n≤l.length→∀hi lo:Int,(n<4→0≤hi)→(hi=val ((l.drop n).drop (4-n))∧lo=val (((l.take 4).drop n)))→
  zce_L0 l Q hi ((n:Int)-1) lo
 |0,_,hi,lo,_,⟨h1,h2⟩=>by
  have e1:hi=val (l.drop 4):=by rw[h1];simp
  have e2:lo=val (l.take 4):=by rw[h2];simp
  subst e1;subst e2
  refine zce_l0 ?_
  unfold zce_w0
  exact Br.neg (by omega) (Lf.i hQ)
 |n+1,hn,hi,lo,hh,⟨h1,h2⟩=>by
  have g:=d.get n
  have e:((n+1:Nat):Int)-1=(n:Int):=by omega
  rw[e]
  have bnd:∀x:List Int,Digits x→x.length≤3→0≤val x∧val x<281474976710656:=by
   intro x dx lx
   have h:=Qdp dx
   have k:=P_le lx
   have:P 3=281474976710656:=by decide
   exact⟨Qau dx,by omega⟩
  refine zce_l0 ?_
  unfold zce_w0
  refine Br.pos (by omega) (Br.i (fun c=>⟨_,Got.i (Num.n (by omega) ?_) (by omega) (gd (by omega))⟩) (fun c=>⟨_,Got.i (Num.n (by omega) ?_) (by omega) (gd (by omega))⟩))
  ·have hv:hi=val (l.drop (n+1)):=by rw[h1,show 4-(n+1)=0 by omega,List.drop_zero]
   have b:=bnd (l.drop (n+1)) (d.drop _) (by rw[List.length_drop];omega)
   rw[u64 (x:=hi*65536) (by omega) (by omega),u64 (by omega) (by omega)]
   refine halves_go l d hl hQ n (by omega) _ lo (by omega) ⟨?_,?_⟩
   ·rw[show 4-n=0 by omega,List.drop_zero,Qbi (by omega),hv];omega
   ·rw[h2,List.drop_of_length_le (by rw[List.length_take];omega),List.drop_of_length_le (by rw[List.length_take];omega)]
  ·have ht:n<(l.take 4).length:=by rw[List.length_take];omega
   have gt:(l.take 4).getD n 0=l.getD n 0:=by
    rw[List.getD_eq_getElem?_getD,List.getD_eq_getElem?_getD,List.getElem?_take_of_lt (by omega)]
   have b:=bnd ((l.take 4).drop (n+1)) ((d.take 4).drop _) (by rw[List.length_drop,List.length_take];omega)
   rw[u64 (x:=lo*65536) (by omega) (by omega),u64 (by omega) (by omega)]
   refine halves_go l d hl hQ n (by omega) hi _ ?_ ⟨?_,?_⟩
   ·intro _;rw[h1];exact Qau ((d.drop _).drop _)
   ·rw[h1,List.drop_drop,List.drop_drop,show n+1+(4-(n+1))=n+(4-n) by omega]
   ·rw[Qbi ht,gt,h2];omega
theorem Halves_r {l:List Int}{n:Int}(h:IsBig l n) (hl:l.length≤8):zce_r l (n/18446744073709551616,n%18446744073709551616,true):=by
 have lo0:=Qau (h.1.take 4)
 have lo1:=Qdp (h.1.take 4)
 have p:=P_le (show(l.take 4).length≤4 by rw[List.length_take];omega)
 have p4:P 4=18446744073709551616:=by decide
 have s:n=val (l.take 4)+18446744073709551616*val (l.drop 4):=by
  by_cases c:4≤l.length
  ·have:=val_split l c
   rw[h.2.2,p4] at this;exact this
  ·rw[List.take_of_length_le (by omega),Qag (by omega),h.2.2];omega
 have e1:n/18446744073709551616=val (l.drop 4):=by omega
 have e2:n%18446744073709551616=val (l.take 4):=by omega
 refine zce_of ?_
 unfold zce_w
 rw[Qab]
 refine Br.neg (by omega) (Num.n (by omega) (halves_go l h.1 hl (Rt.i (by rw[e1,e2])) l.length (Nat.le_refl _) 0 0 (by omega) ?_))
 constructor
 ·rw[List.drop_of_length_le (Nat.le_refl _),List.drop_nil];rfl
 ·rw[List.drop_of_length_le (by rw[List.length_take];omega)];rfl
theorem Size_r {n:Int}(h:InR n):zec_r n (big (n.natAbs:Int)):=by
 have h0:=h.1;have h1:=h.2
 refine zec_of ?_
 unfold zec_w
 refine Br.i (fun c => ?_) (fun c=>Br.i (fun d=>Num.n (by omega) ?_) (fun d => ?_))
 ·subst c;exact⟨_,Of_r (by omega) (by omega),Rt.i rfl⟩
 ·rw[u64 (by omega) (by omega)]
  exact⟨_,Of_r (by omega) (by omega),Rt.i (by rw[show(0:Int)-n=(n.natAbs:Int) by omega])⟩
 ·rw[u64 (by omega) (by omega)]
  exact⟨_,Of_r (by omega) (by omega),Rt.i (by congr 1;omega)⟩
theorem big_pos {n:Int}(m:Nat) (h0:0≤n) (h1:n<P m):(0:Int)<(big n).length↔0<n:=by
 have h:=(Qb0 m h0 h1).1.pos_iff
 omega
theorem Qef {a b c how:Int}(ha:InR a) (hb:InR b) (hc:InR c):zaj_r a b c how (mulDivS a b c how):=by
 refine zaj_of ?_
 unfold zaj_w mulDivS
 refine Br.i (fun c=>Rt.i (by rw[if_pos (.inl c)])) (fun c0 => ?_)
 refine Br.i (fun c=>Rt.i (by rw[if_pos (.inr (.inl c))])) (fun c1 => ?_)
 refine Br.i (fun c=>Rt.i (by rw[if_pos (.inr (.inr c))])) (fun c2 => ?_)
 rw[if_neg (by omega)]
 have ha1:=ha.1;have ha2:=ha.2;have hb1:=hb.1;have hb2:=hb.2;have hc1:=hc.1;have hc2:=hc.2
 have p4:P 4=18446744073709551616:=by decide
 have p8:P 8=340282366920938463463374607431768211456:=by decide
 have p9:P 9=22300745198530623141535718272648361505980416:=by decide
 have ba:=Qb0 (n:=a.natAbs) 4 (by omega) (by omega)
 have bb:=Qb0 (n:=b.natAbs) 4 (by omega) (by omega)
 have bc:=Qb0 (n:=c.natAbs) 4 (by omega) (by omega)
 have ab0:0≤(a.natAbs:Int)*b.natAbs:=Int.mul_nonneg (by omega) (by omega)
 have ab1:(a.natAbs:Int)*b.natAbs≤9223372036854775808*9223372036854775808:=by
  have h1:(a.natAbs:Int)*b.natAbs≤a.natAbs*9223372036854775808:=Int.mul_le_mul_of_nonneg_left (by omega) (by omega)
  omega
 have bm:=Qb0 (n:=(a.natAbs:Int)*b.natAbs) 8 ab0 (by omega)
 refine⟨_,Size_r ha,_,Size_r hb,_,BMul_r ba.1 bb.1 (by omega) (by omega),_,Size_r hc,_,BDiv_r bm.1 bc.1 (by omega) (by omega) (by omega),?_⟩
 have mm:(!((!(decide (a<0)==decide (b<0)))==decide (c<0)))=minusOf a b c:=rfl
 generalize (a.natAbs:Int)*b.natAbs=n at*
 have dpos:(0:Int)<c.natAbs:=by omega
 have dle:(c.natAbs:Int)≤9223372036854775808:=by omega
 have szc:=Size_r hc
 generalize hd:(c.natAbs:Int)=d at*
 have q0:0≤n/d:=Int.ediv_nonneg ab0 (by omega)
 have q1:n/d≤n:=Int.ediv_le_self _ ab0
 have r0:0≤n%d:=Int.emod_nonneg _ (by omega)
 have r1:n%d<d:=Int.emod_lt_of_pos _ dpos
 have bq:=Qb0 (n:=n/d) 8 q0 (by omega)
 have br:=Qb0 (n:=n%d) 4 r0 (by omega)
 have fin:∀q:Int,0≤q→q≤85070591730234615865843651857942052864+1→zaj_j2 a b c (fun v_=>v_=signOf (minusOf a b c) q) (big q):=by
  intro q q0 q1
  have bq:=Qb0 (n:=q) 8 q0 (by omega)
  refine Jn.i ⟨_,Halves_r bq.1 (by omega),?_⟩
  simp only[mm]
  unfold signOf
  refine Br.i (fun h=>Rt.i (by rw[if_pos (by omega)])) (fun h=>Br.i (fun g=>Rt.i (by rw[if_pos (by omega)])) (fun g => ?_))
  have e:q%18446744073709551616=q:=by omega
  rw[e] at g ⊢
  have last:¬ (9223372036854775808<q∨(q=9223372036854775808∧minusOf a b c=false))→zaj_j3 a b c (q/18446744073709551616,q,true) (fun v_=>v_=if 9223372036854775808<q∨(q=9223372036854775808∧minusOf a b c=false) then((0:Int),(9:Int)) else(if minusOf a b c=true then -q else q,0)) ():=by
   intro hn
   rw[if_neg hn]
   refine Jn.i ?_
   simp only[mm]
   refine Br.i (fun h=>Rt.i ?_) (fun h => ?_)
   ·have h:q=9223372036854775808:=h
    have:minusOf a b c=true:=by
     cases hm:minusOf a b c with
     |true=>rfl
     |false=>exact absurd (.inr ⟨h,hm⟩) hn
    rw[this,h];rfl
   ·have h:q≠9223372036854775808:=h
    rw[iw q (by omega) (by omega)]
    refine Br.b (fun hm=>Num.n (by omega) (Rt.i ?_)) (fun hm=>Rt.i ?_)
    ·rw[hm,if_pos rfl,Int.zero_sub]
    ·rw[hm];rfl
  refine Br.i (fun h => ?_) (fun h=>last (by omega))
  refine Br.b (fun hm=>Rt.i ?_) (fun hm=>last ?_)
  ·rw[if_pos (.inr ⟨h,by simpa using hm⟩)]
  ·have:minusOf a b c=true:=by simpa using hm
   rw[this];simp;omega
 have more:∀m:Bool,m=upOf (minusOf a b c) (n/d) (n%d) d how→Qbc a b c (big (n/d),big (n%d)) (fun v_=>v_=signOf (minusOf a b c) (n/d+if upOf (minusOf a b c) (n/d) (n%d) d how=true then 1 else 0)) m:=by
  intro m hm
  rw[←hm]
  refine Jn.i (Br.b (fun h => ?_) (fun h => ?_))
  ·rw[if_pos h]
   have b1:=Qb0 (n:=1) 4 (by omega) (by omega)
   exact⟨_,Of_r (by omega) (by omega),_,Add_r (a:=big (n/d)) bq.1 b1.1 (by omega) (by omega),fin _ (by omega) (by omega)⟩
  ·rw[if_neg (by rw[h];decide),Int.add_zero]
   exact fin _ q0 (by omega)
 rw[Qab]
 refine Br.i (fun h => ?_) (fun h=>more false ?_)
 ·have rp:0<n%d:=(big_pos 4 r0 (by omega)).1 (by omega)
  have b2:=Qb0 (n:=n%d+n%d) 8 (by omega) (by omega)
  refine⟨_,Add_r (a:=big (n%d)) (b:=big (n%d)) br.1 br.1 (by omega) (by omega),_,szc,_,Compare_r b2.1 bc.1 (by omega) (by omega),?_⟩
  obtain⟨c1',c2'⟩:=cmpS_spec b2.1 bc.1
  generalize cmpS (big (n%d+n%d)) (big d)=tw at*
  have tail:∀odd:Bool,odd=decide (n/d%2=1)→zaj_j0 how a b c (big (n/d),big (n%d)) tw (fun v_=>v_=signOf (minusOf a b c) (n/d+if upOf (minusOf a b c) (n/d) (n%d) d how=true then 1 else 0)) odd:=by
   intro odd ho
   refine Jn.i ?_
   simp only[mm]
   have u (m:Bool) (hm:upOf (minusOf a b c) (n/d) (n%d) d how=m):=more m hm.symm
   have hu:upOf (minusOf a b c) (n/d) (n%d) d how=if how=1 then minusOf a b c else if how=2 then !(minusOf a b c) else if how=4 then(if d<2*(n%d) then true else if 2*(n%d)=d then decide (n/d%2=1) else false) else false:=by
    unfold upOf;rw[if_neg (by omega)]
   by_cases h1:how=1
   ·rw[if_pos h1] at hu
    refine Br.pos h1 (Br.b (fun hm=>u true (by rw[hu,hm])) (fun hm => ?_))
    refine Br.neg (by omega) (Br.neg (by omega) (u false (by rw[hu,hm])))
   ·rw[if_neg h1] at hu
    refine Br.neg h1 ?_
    by_cases h2:how=2
    ·rw[if_pos h2] at hu
     refine Br.pos h2 (Br.b (fun hm=>u true (by rw[hu,hm])) (fun hm=>Br.neg (by omega) (u false (by rw[hu,hm]))))
    ·rw[if_neg h2] at hu
     refine Br.neg h2 ?_
     by_cases h4:how=4
     ·rw[if_pos h4] at hu
      refine Br.pos h4 (Br.i (fun g=>u true ?_) (fun g=>Br.i (fun g2=>u odd ?_) (fun g2=>u false ?_)))
      ·rw[hu,if_pos (by omega)]
      ·rw[hu,if_neg (by omega),if_pos (by omega)];exact ho.symm
      ·rw[hu,if_neg (by omega),if_neg (by omega)]
     ·rw[if_neg h4] at hu
      exact Br.neg h4 (u false hu)
  rw[Qab]
  have par:n/d%2=(big (n/d)).getD 0 0%2:=by
   rw[←val_mod_two,bq.1.2.2]
  have g0:=bq.1.1.get 0
  refine Br.i (fun h => ?_) (fun h=>tail false ?_)
  ·have hl:0<(big (n/d)).length:=by have h:((big (n/d)).length:Int)>0:=h;omega
   refine⟨_,Got.i (Rem'.i ⟨g0.1,by omega⟩ (tail _ ?_)) (by omega) (gd (l:=big (n/d)) (i:=0) hl)⟩
   rw[par]
   generalize (big (n/d)).getD 0 0%2=z
   by_cases hh:z=1<;>simp[hh]
  ·have:(big (n/d)).length=0:=by have h:¬ ((big (n/d)).length:Int)>0:=h;omega
   have e:big (n/d)=[]:=List.length_eq_zero_iff.1 this
   rw[par,e];rfl
 ·have rz:¬ 0<n%d:=fun hp=>h ((big_pos 4 r0 (by omega)).2 hp)
  unfold upOf
  rw[if_pos (by omega)]
end Go.Proofs.YtjlkmdmaimednaaGreat.Pure
