import Derived.Test.YtjlkmdmaimednaaGreatAbQ
import Derived.Laws.Strings
set_option linter.unusedVariables false
set_option linter.unusedSimpArgs false
namespace Go.Ab
@[reducible] def InR (n:Int):Prop := -9223372036854775808≤n∧n≤9223372036854775807
@[reducible] def InK (k:IntKind) (n:Int):Prop:=k.min≤n∧n≤k.max
@[reducible] def App (b n:Nat):Prop:=n≤maxLen∧n*b≤140737488355328
@[reducible] def Mk (b:Nat) (n:Int):Prop:=0≤n∧b*n.toNat≤281474976710656∧n.toNat≤maxLen
@[reducible] def Cut (l h n:Int):Prop:=0≤l∧l≤h∧h≤n
@[reducible] def At8 (b:ByteArray) (n:Nat) (c:Int):Prop:=(b.data[n]?).map (fun u=>(u.toNat:Int))=some c
def lenM {α:Type}(f:α→List T)(l:List α):Int:=((l.map f).length:Int)
theorem Qab {α:Type}{f:α→List T}{l:List α}:lenM f l=(l.length:Int):=by simp[lenM]
theorem mk0 {b:Nat}{n:Int}(h:Mk b n):(0:Int)=((0:Nat):Int)∧n=(n.toNat:Int)∧0≤n.toNat∧b*n.toNat≤281474976710656∧n.toNat≤maxLen:=
 ⟨rfl,(Int.toNat_of_nonneg h.1).symm,Nat.zero_le _,h.2⟩
theorem mk1 {b:Nat}{n:Int}(h:Mk b n):n=(n.toNat:Int)∧n=(n.toNat:Int)∧n.toNat≤n.toNat∧b*n.toNat≤281474976710656∧n.toNat≤maxLen:=
 ⟨(Int.toNat_of_nonneg h.1).symm,(Int.toNat_of_nonneg h.1).symm,Nat.le_refl _,h.2⟩
section
variable {α:Type} {f:α→List T} {l h:Int} {xs:List α} {b:ByteArray}
end
def strEq (x y:ByteArray):Bool:=x.toList==y.toList
def strLt (x y:ByteArray):Bool:=Go.Op.bytesLess x.toList y.toList
def strLe (x y:ByteArray):Bool:=strLt x y||strEq x y
theorem Qc2 {x y:ByteArray}(h:x=y):strEq x y=true:=by simp[strEq,h]
theorem strEq_false {x y:ByteArray}(h:x≠y):strEq x y=false:=by
 simp only[strEq,beq_eq_false_iff_ne,ne_eq];exact fun e=>h (toList_inj e)
end Go.Ab
