/-
  A claim's own text, joined by a small program out of: VjK4.
-/
import Derived.Test.YtodollbkpkpklaaGreatX27
import Derived.Test.YtodollbkpkpklaaGreatX2
set_option linter.unusedVariables false
set_option linter.unusedSimpArgs false
section
namespace Go.Vi
open Go
def eqV(x y:Value):Bool:=match x with
 | .int k n=>(match y with| .int k' n'=>decide (k=k')&&O5 n n'|_=>false)
 | .bool b=>(match y with| .bool b'=>b==b'|_=>false)
 | .string s=>(match y with| .string s'=>decide (s.data.toList=s'.data.toList)|_=>false)
 | .func f a b=>(match f with
  | .func f=>(match y with| .func f' a' b'=>(match f' with| .func f'=>Nat.beq f f'&&Nat.beq a.size 0&&Nat.beq b.size 0&&Nat.beq a'.size 0&&Nat.beq b'.size 0|_=>false)|_=>false)
  |_=>false)
 |_=>false
theorem ab0{x y:Value}(h:eqV x y=true):x=y:=by
 unfold eqV at h
 split at h
 ·split at h
  ·simp only[Bool.and_eq_true,decide_eq_true_eq,EN,beq_iff_eq]at h
   rw[h.1,h.2]
  ·cases h
 ·split at h
  ·simp only[beq_iff_eq]at h;rw[h]
  ·cases h
 ·split at h
  ·rename_i s _ s'
   simp only[decide_eq_true_eq]at h
   have:s=s':=by
    cases s;cases s'
    simp only at h
    rw[ByteArray.mk.injEq]
    exact Array.ext' h
   rw[this]
  ·cases h
 ·split at h
  ·split at h
   ·split at h
    ·simp only[Bool.and_eq_true,Nat.beq_eq]at h
     obtain⟨⟨⟨⟨h1,h2⟩,h3⟩,h4⟩,h5⟩:=h
     rw[h1,Array.eq_empty_of_size_eq_zero h2,Array.eq_empty_of_size_eq_zero h3,Array.eq_empty_of_size_eq_zero h4,Array.eq_empty_of_size_eq_zero h5]
    ·cases h
   ·cases h
  ·cases h
 ·cases h
noncomputable def zG(f:T→T→Bool)(l:List T):List T→Bool:=
 List.rec (fun m=>match m with| []=>true|_::_=>false) (fun t _ ih m=>match m with| []=>false|u::us=>bif f t u then ih us else false) l
theorem Cx{f:T→T→Bool}(hf:∀t u,f t u=true→t=u):∀{l m:List T},zG f l m=true→l=m
 | [],[],_=>rfl
 | [],_::_,h=>by cases h
 |_::_,[],h=>by cases h
 |t::ts,u::us,h=>by
  have h':(bif f t u then zG f ts us else false)=true:=h
  cases hb:f t u with
  |false=>rw[hb]at h';cases h'
  |true=>
   rw[hb]at h'
   rw[hf t u hb,Cx hf h']
def U6(g h:Tag):Bool:=match g with
 | .nil=>(match h with| .nil=>true|_=>false)
 | .any=>(match h with| .any=>true|_=>false)
 | .lP=>(match h with| .lP=>true|_=>false)
 | .clip=>(match h with| .clip=>true|_=>false)
 | .own i e=>(match h with| .own j e'=>Nat.beq i j&&Nat.beq e e'|_=>false)
theorem U7{g h:Tag}(e:U6 g h=true):g=h:=by
 cases g<;>cases h<;>simp_all [U6,Nat.beq_eq]
def eqS(f:T→T→Bool)(g:List T→List T→Bool)(t u:T):Bool:=match t with
 | .v x=>(match u with| .v y=>eqV x y|_=>false)
 | .undef=>(match u with| .undef=>true|_=>false)
 | .sl h n cs=>(match u with| .sl h' n' bW=>U6 h h'&&(Nat.beq n n'&&g cs bW)|_=>false)
 | .agg cs=>(match u with| .agg bW=>g cs bW|_=>false)
 | .an cs=>(match u with| .an bW=>g cs bW|_=>false)
 | .ptr cs o=>(match u with| .ptr bW o'=>Nat.beq o o'&&g cs bW|_=>false)
 |_=>false
noncomputable def L0(k:Nat):T→T→Bool:=Nat.rec (fun _ _=>false) (fun _ ih t u=>eqS ih (zG ih) t u) k
theorem Hv:∀(k:Nat) (t u:T),L0 k t u=true→t=u
 |0,t,u,h=>by cases h
 |k+1,t,u,h=>by
  have h':eqS (L0 k) (zG (L0 k)) t u=true:=h
  have hl:∀{l m:List T},zG (L0 k) l m=true→l=m:=fun h=>Cx (Hv k) h
  unfold eqS at h'
  split at h'
  ·split at h'
   ·rw[ab0 h']
   ·cases h'
  ·split at h'
   ·rfl
   ·cases h'
  ·split at h'
   ·simp only[Bool.and_eq_true,Nat.beq_eq]at h'
    rw[U7 h'.1,h'.2.1,hl h'.2.2]
   ·cases h'
  ·split at h'
   ·rw[hl h']
   ·cases h'
  ·split at h'
   ·rw[hl h']
   ·cases h'
  ·split at h'
   ·simp only[Bool.and_eq_true,Nat.beq_eq]at h'
    rw[h'.1,hl h'.2]
   ·cases h'
  ·cases h'
abbrev YO:=List (Nat×List T×T)
noncomputable def Pu(tab:YO)(C:qT):qT:=fun f args=>List.rec (C f args) (fun e _ ih=>bif Nat.beq e.1 f then(bif zG (L0 8) e.2.1 args then some e.2.2 else ih)else ih) tab
def MS(E:Env):YO→Prop
 | []=>True
 |e::es=>Ev E e.1 e.2.1 e.2.2∧MS E es
theorem MS.fuel{E:Env}:∀{tab:YO},MS E tab→∃n,∀e∈tab,aW E n e.1 e.2.1=some e.2.2
 | [],_=>⟨0,fun e he=>by cases he⟩
 |e::es,h=>by
  obtain⟨⟨n,hn⟩,h2⟩:=h
  obtain⟨m,hm⟩:=h2.fuel
  refine⟨max n m,fun x hx=> ?_⟩
  rcases List.mem_cons.1 hx with rfl|hx
  ·exact dY (Nat.le_max_left n m) _ _ _ hn
  ·exact dY (Nat.le_max_right n m) _ _ _ (hm x hx)
theorem SW{C C':qT}(hC:Le C C'):∀{tab:YO},(∀e∈tab,C' e.1 e.2.1=some e.2.2)→Le (Pu tab C) C'
 | [],_,f,a,r,h=>hC f a r h
 |e::es,ht,f,a,r,h=>by
  have h':(bif Nat.beq e.1 f then(bif zG (L0 8) e.2.1 a then some e.2.2 else Pu es C f a)else Pu es C f a)=some r:=h
  have hes:=SW hC (tab:=es) (fun x hx=>ht x (List.mem_cons_of_mem _ hx)) f a r
  cases hb:Nat.beq e.1 f with
  |false=>rw[hb]at h';exact hes h'
  |true=>
   rw[hb]at h'
   cases hc:zG (L0 8) e.2.1 a with
   |false=>rw[hc]at h';exact hes h'
   |true=>
    rw[hc]at h'
    have:=ht e List.mem_cons_self
    rw[Nat.eq_of_beq_eq_true hb,Cx (Hv 8) hc]at this
    rw[this]
    exact h'
noncomputable def U8(o:Option T)(r:T):Bool:=match o with|some t=>L0 8 t r|none=>false
theorem U9{o:Option T}{r:T}(h:U8 o r=true):o=some r:=by
 unfold U8 at h
 split at h
 ·rw[Hv 8 _ _ h]
 ·cases h
theorem Va{C C':kM}(h:Le C C'){n m:Nat}(hm:n≤m){fn:aD}{args:List T}{r:T}(e:sm C n fn args=some r):sm C' m fn args=some r:=by
 unfold sm at e⊢
 split at e<;>try(cases e;done)
 rename_i hl
 rw[if_pos hl]
 split at e
 ·rename_i σ ho
  rw[cC h hm ho]
  exact e
 ·rename_i σ ho
  rw[cC h hm ho]
  exact e
 ·cases e
theorem aT{E:Env}{f:FuncId}{fn:aD}{args:List T}{r:T}(tab:YO)(N:Nat)(ht:MS E tab)(hp:E.kJ f=none)(hf:f< aq)(pL:E.fn f=some fn)(hs:fn.split=false)
  (hrun:U8 (I6 (Pu tab (Fz E N)) N fn args) r=true):Ev E f args r:=by
 obtain⟨m,hm⟩:=ht.fuel
 have h1:=U9 hrun
 rw[LZ,Pt]at h1
 have hle:Le (Pu tab (aW E N)) (aW E (max N m)):=SW (dY (Nat.le_max_left N m)) fun e he=>dY (Nat.le_max_right N m) _ _ _ (hm e he)
 have h2:=Va hle (Nat.le_max_left N m) h1
 refine⟨max N m+1, ?_⟩
 simp only[aW,hp,if_pos hf,pL,iT,hs,Bool.false_eq_true,if_false]
 exact h2
end Go.Vi
end
