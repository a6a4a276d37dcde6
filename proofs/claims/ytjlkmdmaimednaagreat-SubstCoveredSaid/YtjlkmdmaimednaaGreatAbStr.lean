import Derived.Test.YtjlkmdmaimednaaGreatAbX
set_option linter.unusedVariables false
set_option linter.unusedSimpArgs false
namespace Go.Ab
theorem bLess_eq:∀(x y:List UInt8),Op.bytesLess x y=decide (x<y)
 |[],[]=>by simp[Op.bytesLess]
 |_::_,[]=>by simp[Op.bytesLess]
 |[],_::_=>by simp[Op.bytesLess]
 |a::x,b::y=>by
  have ih:=bLess_eq x y
  simp only[Op.bytesLess,ih,List.cons_lt_cons_iff]
  by_cases h1:a<b<;>by_cases h2:a=b<;>by_cases h3:x<y<;>simp[h1,h2,h3]
def sLt (x y:ByteArray):Prop:=x.data.toList<y.data.toList
instance:DecidableRel sLt:=fun a b=>decidable_of_iff (a.data.toList<b.data.toList) Iff.rfl
theorem Qak (x:ByteArray):¬ sLt x x:=List.lt_irrefl _
theorem Qcx {x y z:ByteArray}(h:sLt x y) (k:sLt y z):sLt x z:=List.lt_trans h k
theorem sLt_asymm {x y:ByteArray}(h:sLt x y):¬ sLt y x:=fun k=>Qak _ (Qcx h k)
theorem sLt_ext {x y:ByteArray}(h:x.data.toList=y.data.toList):x=y:=by
 cases x;cases y;congr;exact Array.toList_inj.1 h
theorem sLt_tri {x y:ByteArray}(h:¬ sLt x y) (k:¬ sLt y x):x=y:=sLt_ext (List.le_antisymm (List.not_lt.1 k) (List.not_lt.1 h))
theorem sLt_nt {x y z:ByteArray}(h:¬ sLt x y) (k:¬ sLt y z):¬ sLt x z:=List.not_lt.2 (List.le_trans (List.not_lt.1 k) (List.not_lt.1 h))
theorem strLt_s (x y:ByteArray):strLt x y=decide (sLt x y):=by
 unfold strLt;rw[bLess_eq,ByteArray.toList_eq,ByteArray.toList_eq];exact decide_eq_decide.2 Iff.rfl
instance (x y:ByteArray):IsB (strLt x y) (sLt x y):=⟨by rw[strLt_s];simp⟩
theorem strLe_s (x y:ByteArray):strLe x y=decide (¬ sLt y x):=by
 unfold strLe
 rw[strLt_s]
 by_cases h:sLt y x
 ·have h2:x≠y:=fun e=>by subst e;exact Qak _ h
  rw[decide_eq_false (sLt_asymm h),strEq_false h2,decide_eq_false (fun h3=>h3 h)];rfl
 ·rw[decide_eq_true h]
  by_cases h1:sLt x y
  ·rw[decide_eq_true h1];rfl
  ·rw[Qc2 (sLt_tri h1 h)];simp
instance (x y:ByteArray):IsB (strLe x y) (¬ sLt y x):=⟨by rw[strLe_s];simp⟩
end Go.Ab
