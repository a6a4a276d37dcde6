import Derived.Test.YtjlkmdmaimednaaGreatAbT
import Derived.Test.YtjlkmdmaimednaaGreatAbW
set_option linter.unusedVariables false
set_option linter.unusedSimpArgs false
namespace Go.Ab
def eI (k:IntKind)(n:Int):List T:=[.v (.int k n)]
def eN (n:Int):List T:=[i64 n]
def eB (b:Bool):List T:=[boo b]
def eS (s:ByteArray):List T:=[str s]
def eL {α:Type}(m:Nat)(f:α→List T)(l:List α):List T:=[.sl m (l.map f)]
def kI (k:IntKind)(n:Int):Value := .int k n
def kS (s:ByteArray):Value := .string s
def kB (b:Bool):Value := .bool b
structure GM (κ ν:Type) where
 clock:Nat
 es:List (κ×Nat×ν)
def GM.nil {κ ν:Type}:GM κ ν:=⟨0,[]⟩
def encE {κ ν:Type}(ek:κ→Value)(ev:ν→List T)(x:κ×Nat×ν):Ent:=⟨ek x.1,x.2.1,ev x.2.2⟩
def GM.ents {κ ν:Type}(m:GM κ ν)(ek:κ→Value)(ev:ν→List T):List Ent:=m.es.map (encE ek ev)
def bAnd (k:IntKind)(x y:Int):Int:=k.wrap ((BitVec.ofInt k.bits x &&& BitVec.ofInt k.bits y).toNat:Int)
def bOr (k:IntKind)(x y:Int):Int:=k.wrap ((BitVec.ofInt k.bits x ||| BitVec.ofInt k.bits y).toNat:Int)
section
variable {α β:Type} {K:Prop}
def Num (k:IntKind)(n:Int)(K:Prop):Prop:=(k.min≤n∧n≤k.max)∧K
def Shf (b:Int)(K:Prop):Prop:=0≤b∧K
def Quo' (k:IntKind)(a b:Int)(K:Prop):Prop:=(0≤a∧0<b∧a≤k.max)∧K
def Rem' (k:IntKind)(a b:Int)(K:Prop):Prop:=(0≤a∧0<b)∧K
def Got (f:α→List T)(l:List α)(i:Int)(x:α)(K:Prop):Prop:=(i=(i.toNat:Int)∧(l.map f)[i.toNat]? = some (f x))∧K
def EltG (f:α→List T)(l:List α)(i:Int)(x:α)(K:Prop):Prop:=(l.map f)[i.toNat]? = some (f x)∧K
def EltS (f:α→List T)(l:List α)(i:Int)(x y:α)(K:Prop):Prop:=(l.map f)[i.toNat]? = some (f x)∧((l.map f).set i.toNat (f y)=(l.set i.toNat y).map f∧K)
def InL (f:α→List T)(l:List α)(i:Int)(K:Prop):Prop:=(i=(i.toNat:Int)∧i.toNat<(l.map f).length)∧K
def Ap0 (b:Nat)(f:α→List T)(l:List α)(K:Prop):Prop:=((l.map f).length≤maxLen∧(l.map f).length*b≤140737488355328)∧K
def ApL (b:Nat)(f:α→List T)(l m:List α)(K:Prop):Prop:=((l.map f).length+(m.map f).length≤maxLen∧((l.map f).length+(m.map f).length)*b≤140737488355328)∧K
def ApZ (b:Nat)(f:α→List T)(m:List α)(K:Prop):Prop:=ApL b f [] m K
def App2 (b:Nat)(f:α→List T)(l m:List α)(K:Prop):Prop:=((l.map f).length+(m.map f).length≤maxLen∧((l.map f).length+(m.map f).length)*b≤140737488355328)∧(l.map f++m.map f=(l++m).map f∧K)
def Mk0 (b:Nat)(n:Int)(K:Prop):Prop:=((0:Int)=((0:Nat):Int)∧n=(n.toNat:Int)∧0≤n.toNat∧b*n.toNat≤281474976710656∧n.toNat≤maxLen)∧K
def MkN (b:Nat)(f:α→List T)(n:Int)(x:α)(K:Prop):Prop:=(n=(n.toNat:Int)∧n=(n.toNat:Int)∧n.toNat≤n.toNat∧b*n.toNat≤281474976710656∧n.toNat≤maxLen)∧(List.replicate n.toNat (f x)=(List.replicate n.toNat x).map f∧K)
def CutL (f:α→List T)(l:List α)(K:Prop):Prop:=(0=0∧(l.map f).length=(l.map f).length)∧K
def CutLl (f:α→List T)(l:List α)(i:Int)(K:Prop):Prop:=(i=(i.toNat:Int)∧(l.map f).length=(l.map f).length∧i.toNat≤(l.map f).length)∧((l.map f).drop i.toNat=(l.drop i.toNat).map f∧K)
def CutLh (f:α→List T)(l:List α)(h:Int)(K:Prop):Prop:=(0=0∧h=(h.toNat:Int)∧h.toNat≤(l.map f).length)∧((l.map f).take h.toNat=(l.take h.toNat).map f∧K)
def CutLlh (f:α→List T)(l:List α)(i h:Int)(K:Prop):Prop:=(i=(i.toNat:Int)∧h=(h.toNat:Int)∧i.toNat≤h.toNat∧h.toNat≤(l.map f).length)∧(((l.map f).take h.toNat).drop i.toNat=((l.take h.toNat).drop i.toNat).map f∧K)
def CutSl (b:ByteArray)(i:Int)(K:Prop):Prop:=(i=(i.toNat:Int)∧b.size=b.size∧i.toNat≤b.size)∧K
def CutSh (b:ByteArray)(h:Int)(K:Prop):Prop:=(0=0∧h=(h.toNat:Int)∧h.toNat≤b.size)∧K
def CutSlh (b:ByteArray)(i h:Int)(K:Prop):Prop:=(i=(i.toNat:Int)∧h=(h.toNat:Int)∧i.toNat≤h.toNat∧h.toNat≤b.size)∧K
def StrG (b:ByteArray)(i:Int)(c:Int)(K:Prop):Prop:=(i=(i.toNat:Int)∧(b.data[i.toNat]?).map (fun u=>(u.toNat:Int))=some c)∧K
def Look (kd:TypeDesc)(ek:α→Value)(ev:β→List T)(z:β)(m:GM α β)(k:α)(v:β)(b:Bool)(K:Prop):Prop:=LookE kd (ek k) (m.ents ek ev) (ev z) (ev v) b∧K
def Put (kd:TypeDesc)(ek:α→Value)(ev:β→List T)(m:GM α β)(k:α)(v:β)(m':GM α β)(K:Prop):Prop:=PutE kd (ek k) (ev v) m.clock (m.ents ek ev) m'.clock (m'.ents ek ev)∧K
def Lf {Y:Type}(e:Exit)(st:Y→St)(y:Y)(Q:Prop):Prop:=Lv e e (st y) (st y) Q
def Rt {Y:Type}(r:Y→A)(o:Y→List (Nat×O))(v:Y)(Q:Prop):Prop:=Lv (r v) (r v) (o v) (o v) Q
def Jn (s:St)(K:Prop):Prop:=s=s∧K
theorem Jn.i {s:St}{K:Prop}(c:K):Jn s K:=⟨rfl,c⟩
theorem Num.i {k:IntKind}{n:Int}(h:InK k n) (c:K):Num k n K:=⟨h,c⟩
theorem Num.n {n:Int}(h : -9223372036854775808≤n∧n≤9223372036854775807) (c:K):Num .i64 n K:=⟨h,c⟩
theorem Quo'.i {k:IntKind}{a b:Int}(h:0≤a∧0<b∧a≤k.max) (c:K):Quo' k a b K:=⟨h,c⟩
theorem Rem'.i {k:IntKind}{a b:Int}(h:0≤a∧0<b) (c:K):Rem' k a b K:=⟨h,c⟩
theorem Got.i {f:α→List T}{l:List α}{i:Int}{x:α}(c:K) (h0:0≤i:=by first|assumption|omega) (h1:l[i.toNat]? = some x:=by assumption):Got f l i x K:=⟨⟨(Int.toNat_of_nonneg h0).symm,by simp[h1]⟩,c⟩
theorem EltG.i {f:α→List T}{l:List α}{i:Int}{x:α}(c:K) (h1:l[i.toNat]? = some x:=by assumption):EltG f l i x K:=⟨by simp[h1],c⟩
theorem EltS.i {f:α→List T}{l:List α}{i:Int}{x y:α}(c:K) (h1:l[i.toNat]? = some x:=by assumption):EltS f l i x y K:=⟨by simp[h1],by simp[List.map_set],c⟩
theorem InL.i {f:α→List T}{l:List α}{i:Int}(c:K) (h0:0≤i:=by first|assumption|omega) (h1:i.toNat<l.length:=by first|assumption|omega):InL f l i K:=⟨⟨(Int.toNat_of_nonneg h0).symm,by simpa using h1⟩,c⟩
theorem Ap0.i {b:Nat}{f:α→List T}{l:List α}(h:App b l.length) (c:K):Ap0 b f l K:=⟨by simpa using h,c⟩
theorem ApL.i {b:Nat}{f:α→List T}{l m:List α}(h:App b (l.length+m.length)) (c:K):ApL b f l m K:=⟨by simpa using h,c⟩
theorem ApZ.i {b:Nat}{f:α→List T}{m:List α}(h:App b m.length) (c:K):ApZ b f m K:=ApL.i (by simpa using h) c
theorem App2.i {b:Nat}{f:α→List T}{l m:List α}(h:App b (l.length+m.length)) (c:K):App2 b f l m K:=⟨by simpa using h,by simp,c⟩
theorem Mk0.i {b:Nat}{n:Int}(h:Mk b n) (c:K):Mk0 b n K:=⟨mk0 h,c⟩
theorem MkN.i {b:Nat}{f:α→List T}{n:Int}{x:α}(h:Mk b n) (c:K):MkN b f n x K:=⟨mk1 h,by simp,c⟩
theorem CutL.i {f:α→List T}{l:List α}(c:K):CutL f l K:=⟨⟨rfl,rfl⟩,c⟩
theorem CutLl.i {f:α→List T}{l:List α}{i:Int}(h:0≤i∧i≤l.length) (c:K):CutLl f l i K:=⟨⟨(Int.toNat_of_nonneg h.1).symm,rfl,by rw[List.length_map];omega⟩,by simp,c⟩
theorem CutLh.i {f:α→List T}{l:List α}{i:Int}(h:0≤i∧i≤l.length) (c:K):CutLh f l i K:=⟨⟨rfl,(Int.toNat_of_nonneg h.1).symm,by rw[List.length_map];omega⟩,by simp,c⟩
theorem CutLlh.i {f:α→List T}{l:List α}{i j:Int}(h:0≤i∧i≤j∧j≤l.length) (c:K):CutLlh f l i j K:=⟨⟨(Int.toNat_of_nonneg h.1).symm,(Int.toNat_of_nonneg (by omega)).symm,by omega,by rw[List.length_map];omega⟩,by simp,c⟩
theorem CutSl.i {b:ByteArray}{i:Int}(h:0≤i∧i≤b.size) (c:K):CutSl b i K:=⟨⟨(Int.toNat_of_nonneg h.1).symm,rfl,by omega⟩,c⟩
theorem CutSh.i {b:ByteArray}{i:Int}(h:0≤i∧i≤b.size) (c:K):CutSh b i K:=⟨⟨rfl,(Int.toNat_of_nonneg h.1).symm,by omega⟩,c⟩
theorem CutSlh.i {b:ByteArray}{i j:Int}(h:0≤i∧i≤j∧j≤b.size) (c:K):CutSlh b i j K:=⟨⟨(Int.toNat_of_nonneg h.1).symm,(Int.toNat_of_nonneg (by omega)).symm,by omega,by omega⟩,c⟩
theorem StrG.i {b:ByteArray}{i c:Int}(h0:0≤i) (h:At8 b i.toNat c) (k:K):StrG b i c K:=⟨⟨(Int.toNat_of_nonneg h0).symm,h⟩,k⟩
theorem Lf.i {Y:Type}{e:Exit}{st:Y→St}{y:Y}{Q:Prop}(h:Q):Lf e st y Q:=⟨⟨rfl,rfl⟩,h⟩
theorem Rt.i {Y:Type}{r:Y→A}{o:Y→List (Nat×O)}{v:Y}{Q:Prop}(h:Q):Rt r o v Q:=⟨⟨rfl,rfl⟩,h⟩
end
class IsB (b:Bool) (p:outParam Prop):Prop where
 iff:b=true↔p
instance (p:Prop) [Decidable p]:IsB (decide p) p:=⟨by simp⟩
instance {α:Type} [BEq α] [LawfulBEq α] (x y:α):IsB (x==y) (x=y):=⟨by simp⟩
instance {α:Type} [BEq α] [LawfulBEq α] (x y:α):IsB (x != y) (x≠y):=⟨by simp⟩
instance (x y:ByteArray):IsB (strEq x y) (x=y):=⟨⟨fun h=>toList_inj (by simpa[strEq] using h),Qc2⟩⟩
instance (b:Bool) (p:Prop) [h:IsB b p]:IsB (!b) (¬ p):=⟨by rw[←h.iff];simp⟩
instance:IsB true True:=⟨by simp⟩
instance (a b:Bool) (p q:Prop) [ha:IsB a p] [hb:IsB b q]:IsB (a&&b) (p∧q):=⟨by rw[←ha.iff,←hb.iff];simp⟩
theorem Br.i {b:Bool}{p X Y:Prop} [h:IsB b p] (h1:p→X) (h2:¬ p→Y):Br b X Y:=by
 cases hb:b with
 |true=>exact .inl ⟨rfl,h1 (h.iff.1 hb)⟩
 |false=>exact .inr ⟨rfl,h2 fun hp=>by rw[h.iff.2 hp] at hb;cases hb⟩
theorem Br.t {b:Bool}{X Y:Prop}(hb:b=true) (h1:X):Br b X Y := .inl ⟨hb,h1⟩
theorem Br.f {b:Bool}{X Y:Prop}(hb:b=false) (h2:Y):Br b X Y := .inr ⟨hb,h2⟩
theorem Br.b {b:Bool}{X Y:Prop}(h1:b=true→X) (h2:b=false→Y):Br b X Y:=by
 cases hb:b with
 |true=>exact .inl ⟨rfl,h1 hb⟩
 |false=>exact .inr ⟨rfl,h2 hb⟩
theorem Br.pos {b:Bool}{p X Y:Prop} [h:IsB b p] (hp:p) (h1:X):Br b X Y := .inl ⟨h.iff.2 hp,h1⟩
theorem Br.neg {b:Bool}{p X Y:Prop} [h:IsB b p] (hp:¬ p) (h2:Y):Br b X Y:=Br.i (fun q=>absurd q hp) fun _=>h2
end Go.Ab
