/-
  A claim's own text, joined by a small program out of: VjK4.
-/
import Derived.Test.YtodollbkpkpklaaGreatY27
import Derived.Test.YtodollbkpkpklaaGreatY2
set_option linter.unusedVariables false
set_option linter.unusedSimpArgs false
section
namespace Go.Vi
open Go
def eqV(x y:Value):Bool:=match x with
 | .int k n=>(match y with| .int k' n'=>decide (k=k')&&Pq n n'|_=>false)
 | .bool b=>(match y with| .bool b'=>b==b'|_=>false)
 | .string s=>(match y with| .string s'=>decide (s.data.toList=s'.data.toList)|_=>false)
 | .func f a b=>(match f with
  | .func f=>(match y with| .func f' a' b'=>(match f' with| .func f'=>Nat.beq f f'&&Nat.beq a.size 0&&Nat.beq b.size 0&&Nat.beq a'.size 0&&Nat.beq b'.size 0|_=>false)|_=>false)
  |_=>false)
 |_=>false
theorem acn{x y:Value}(h:eqV x y=true):x=y:=by
 unfold eqV at h
 split at h
 ·split at h
  ·simp only[Bool.and_eq_true,decide_eq_true_eq,Fk,beq_iff_eq]at h
   rw[h.1,h.2]
  ·cases h
 ·split at h
  ·simp only[beq_iff_eq]at h;rw[h]
  ·cases h
 ·split at h
  ·rename_i s _ s'
   simp only[decide_eq_true_eq]at h
   have:s=s':=by
    cases s;cases s'
    simp only at h
    rw[ByteArray.mk.injEq]
    exact Array.ext' h
   rw[this]
  ·cases h
 ·split at h
  ·split at h
   ·split at h
    ·simp only[Bool.and_eq_true,Nat.beq_eq]at h
     obtain⟨⟨⟨⟨h1,h2⟩,h3⟩,h4⟩,h5⟩:=h
     rw[h1,Array.eq_empty_of_size_eq_zero h2,Array.eq_empty_of_size_eq_zero h3,Array.eq_empty_of_size_eq_zero h4,Array.eq_empty_of_size_eq_zero h5]
    ·cases h
   ·cases h
  ·cases h
 ·cases h
noncomputable def Aj(f:T→T→Bool)(l:List T):List T→Bool:=
 List.rec (fun m=>match m with| []=>true|_::_=>false) (fun t _ ih m=>match m with| []=>false|u::us=>bif f t u then ih us else false) l
theorem C9{f:T→T→Bool}(hf:∀t u,f t u=true→t=u):∀{l m:List T},Aj f l m=true→l=m
 | [],[],_=>rfl
 | [],_::_,h=>by cases h
 |_::_,[],h=>by cases h
 |t::ts,u::us,h=>by
  have h':(bif f t u then Aj f ts us else false)=true:=h
  cases hb:f t u with
  |false=>rw[hb]at h';cases h'
  |true=>
   rw[hb]at h'
   rw[hf t u hb,C9 hf h']
def Vn(g h:Tag):Bool:=match g with
 | .nil=>(match h with| .nil=>true|_=>false)
 | .any=>(match h with| .any=>true|_=>false)
 | .l9=>(match h with| .l9=>true|_=>false)
 | .clip=>(match h with| .clip=>true|_=>false)
 | .own i e=>(match h with| .own j e'=>Nat.beq i j&&Nat.beq e e'|_=>false)
theorem Vo{g h:Tag}(e:Vn g h=true):g=h:=by
 cases g<;>cases h<;>simp_all [Vn,Nat.beq_eq]
def eqS(f:T→T→Bool)(g:List T→List T→Bool)(t u:T):Bool:=match t with
 | .v x=>(match u with| .v y=>eqV x y|_=>false)
 | .undef=>(match u with| .undef=>true|_=>false)
 | .sl h n cs=>(match u with| .sl h' n' b9=>Vn h h'&&(Nat.beq n n'&&g cs b9)|_=>false)
 | .agg cs=>(match u with| .agg b9=>g cs b9|_=>false)
 | .al cs=>(match u with| .al b9=>g cs b9|_=>false)
 | .ptr cs o=>(match u with| .ptr b9 o'=>Nat.beq o o'&&g cs b9|_=>false)
 |_=>false
noncomputable def Mr(k:Nat):T→T→Bool:=Nat.rec (fun _ _=>false) (fun _ ih t u=>eqS ih (Aj ih) t u) k
theorem HU:∀(k:Nat) (t u:T),Mr k t u=true→t=u
 |0,t,u,h=>by cases h
 |k+1,t,u,h=>by
  have h':eqS (Mr k) (Aj (Mr k)) t u=true:=h
  have hl:∀{l m:List T},Aj (Mr k) l m=true→l=m:=fun h=>C9 (HU k) h
  unfold eqS at h'
  split at h'
  ·split at h'
   ·rw[acn h']
   ·cases h'
  ·split at h'
   ·rfl
   ·cases h'
  ·split at h'
   ·simp only[Bool.and_eq_true,Nat.beq_eq]at h'
    rw[Vo h'.1,h'.2.1,hl h'.2.2]
   ·cases h'
  ·split at h'
   ·rw[hl h']
   ·cases h'
  ·split at h'
   ·rw[hl h']
   ·cases h'
  ·split at h'
   ·simp only[Bool.and_eq_true,Nat.beq_eq]at h'
    rw[h'.1,hl h'.2]
   ·cases h'
  ·cases h'
abbrev Y5:=List (Nat×List T×T)
noncomputable def PO(tab:Y5)(C:rh):rh:=fun f args=>List.rec (C f args) (fun e _ ih=>bif Nat.beq e.1 f then(bif Aj (Mr 8) e.2.1 args then some e.2.2 else ih)else ih) tab
def Nl(E:Env):Y5→Prop
 | []=>True
 |e::es=>Ev E e.1 e.2.1 e.2.2∧Nl E es
theorem Nl.fuel{E:Env}:∀{tab:Y5},Nl E tab→∃n,∀e∈tab,aV E n e.1 e.2.1=some e.2.2
 | [],_=>⟨0,fun e he=>by cases he⟩
 |e::es,h=>by
  obtain⟨⟨n,hn⟩,h2⟩:=h
  obtain⟨m,hm⟩:=h2.fuel
  refine⟨max n m,fun x hx=> ?_⟩
  rcases List.mem_cons.1 hx with rfl|hx
  ·exact ef (Nat.le_max_left n m) _ _ _ hn
  ·exact ef (Nat.le_max_right n m) _ _ _ (hm x hx)
theorem Te{C C':rh}(hC:Le C C'):∀{tab:Y5},(∀e∈tab,C' e.1 e.2.1=some e.2.2)→Le (PO tab C) C'
 | [],_,f,a,r,h=>hC f a r h
 |e::es,ht,f,a,r,h=>by
  have h':(bif Nat.beq e.1 f then(bif Aj (Mr 8) e.2.1 a then some e.2.2 else PO es C f a)else PO es C f a)=some r:=h
  have hes:=Te hC (tab:=es) (fun x hx=>ht x (List.mem_cons_of_mem _ hx)) f a r
  cases hb:Nat.beq e.1 f with
  |false=>rw[hb]at h';exact hes h'
  |true=>
   rw[hb]at h'
   cases hc:Aj (Mr 8) e.2.1 a with
   |false=>rw[hc]at h';exact hes h'
   |true=>
    rw[hc]at h'
    have:=ht e List.mem_cons_self
    rw[Nat.eq_of_beq_eq_true hb,C9 (HU 8) hc]at this
    rw[this]
    exact h'
noncomputable def Vp(o:Option T)(r:T):Bool:=match o with|some t=>Mr 8 t r|none=>false
theorem Vq{o:Option T}{r:T}(h:Vp o r=true):o=some r:=by
 unfold Vp at h
 split at h
 ·rw[HU 8 _ _ h]
 ·cases h
theorem Vr{C C':lg}(h:Le C C'){n m:Nat}(hm:n≤m){fn:aC}{args:List T}{r:T}(e:sK C n fn args=some r):sK C' m fn args=some r:=by
 unfold sK at e⊢
 split at e<;>try(cases e;done)
 rename_i hl
 rw[if_pos hl]
 split at e
 ·rename_i σ ho
  rw[cC h hm ho]
  exact e
 ·rename_i σ ho
  rw[cC h hm ho]
  exact e
 ·cases e
theorem aT{E:Env}{f:FuncId}{fn:aC}{args:List T}{r:T}(tab:Y5)(N:Nat)(ht:Nl E tab)(hp:E.kF f=none)(hf:f< an)(pZ:E.fn f=some fn)(hs:fn.split=false)
  (hrun:Vp (Ju (PO tab (F6 E N)) N fn args) r=true):Ev E f args r:=by
 obtain⟨m,hm⟩:=ht.fuel
 have h1:=Vq hrun
 rw[Mq,PN]at h1
 have hle:Le (PO tab (aV E N)) (aV E (max N m)):=Te (ef (Nat.le_max_left N m)) fun e he=>ef (Nat.le_max_right N m) _ _ _ (hm e he)
 have h2:=Vr hle (Nat.le_max_left N m) h1
 refine⟨max N m+1, ?_⟩
 simp only[aV,hp,if_pos hf,pZ,jd,hs,Bool.false_eq_true,if_false]
 exact h2
end Go.Vi
end
