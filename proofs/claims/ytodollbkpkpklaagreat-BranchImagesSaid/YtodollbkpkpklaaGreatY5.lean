/-
  A claim's own text, joined by a small program out of: H1.
-/
import Derived.Test.YtodollbkpkpklaaGreatY3
import Derived.Laws.RangeAny
import Derived.Laws.RangeString
set_option linter.unusedVariables false
set_option linter.unusedSimpArgs false
section
set_option maxRecDepth 100000
namespace Go.Vi.Sz
open Go Go.Vi Go.Vi.Zz
theorem Fs{c:Nat}(h:128≤c):eX c=false:=by
 unfold eX
 have h1:¬c≤122:=by omega
 have h2:¬c≤57:=by omega
 have h3:(c==46)=false:=by rw[beq_eq_false_iff_ne];omega
 have h4:(c==95)=false:=by rw[beq_eq_false_iff_ne];omega
 have h5:(c==45)=false:=by rw[beq_eq_false_iff_ne];omega
 simp[h1,h2,h3,h4,h5]
theorem An(s:ByteArray):∀f pos,s.size≤f+pos→(Lib.idxFuncFrom (fun c=> !eX c) true s f pos< 0↔∀i (h:i< s.size),pos≤i→eX (s[i]'h).toNat=true)
 |0,pos,hf=>by
  simp only[Lib.idxFuncFrom]
  exact⟨fun _ i h hp=>by omega,fun _=>by decide⟩
 |f+1,pos,hf=>by
  unfold Lib.idxFuncFrom
  by_cases hp:pos< s.size
  ·rw[if_pos hp]
   by_cases hb:(s[pos]'hp).toNat< 128
   ·rw[decode_ascii s pos hp hb]
    by_cases hl:eX (s[pos]'hp).toNat=true
    ·rw[if_neg (by simp[hl]),An s f (pos+1) (by omega)]
     constructor
     ·intro h i hi hpi
      by_cases he:i=pos
      ·subst he;exact hl
      ·exact h i hi (by omega)
     ·intro h i hi hpi
      exact h i hi (by omega)
    ·rw[if_pos (by simp[hl])]
     constructor
     ·intro h;omega
     ·intro h;exact absurd (h pos hp (Nat.le_refl _)) hl
   ·have hd:=decode_high s pos hp (by omega)
    rw[if_pos (by simp[Fs hd.1])]
    constructor
    ·intro h;omega
    ·intro h
     have:=h pos hp (Nat.le_refl _)
     rw[Fs (by omega)]at this
     cases this
  ·rw[if_neg hp]
   exact⟨fun _ i h hpi=>by omega,fun _=>by decide⟩
theorem Rx(s:List UInt8):(Lib.idxFunc (fun c=> !eX c) true ⟨s.toArray⟩< 0)↔s.all (fun b=>eX b.toNat)=true:=by
 have hsz:(ByteArray.mk s.toArray).size=s.length:=by show s.toArray.size=_;simp
 unfold Lib.idxFunc
 rw[An _ _ _ (by simp),List.all_eq_true]
 constructor
 ·intro h b hb
  obtain⟨i,hi,rfl⟩:=List.mem_iff_getElem.1 hb
  exact h i (by rw[hsz];exact hi) (Nat.zero_le _)
 ·intro h i hi _
  have vp:i< s.length:=by rw[←hsz];exact hi
  exact h _ (List.getElem_mem vp)
end Go.Vi.Sz
end
