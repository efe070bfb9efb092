/-
  A claim's own text, joined by a small program out of: VjZ.
-/
import Derived.Test.YtodollbkpkpklaaGreatY2
set_option linter.unusedVariables false
set_option linter.unusedSimpArgs false
section
namespace Go.Vi
open Go
def pt:Nat→Nat→List (Nat×T)→(Nat→T)→List T
 |0,_,_,_=>[]
 |n+1,i,[],a=>a i::pt n (i+1) [] a
 |n+1,i,(j,x)::l,a=>if i=j then x::pt n (i+1) l a else a i::pt n (i+1) ((j,x)::l) a
def Fits:Nat→Nat→List (Nat×T)→List T→Prop
 |0,_,_,[]=>True
 |n+1,i,[],_::ts=>Fits n (i+1) [] ts
 |n+1,i,(j,x)::l,t::ts=>(i=j→t=x)∧Fits n (i+1) (if i=j then l else(j,x)::l) ts
 |_,_,_,_=>False
theorem CW:∀(n i:Nat) (l:List (Nat×T)) (a b:Nat→T),(∀k,i≤k→a k=b k)→pt n i l a=pt n i l b
 |0,_,_,_,_,_=>rfl
 |n+1,i,[],a,b,h=>by simp only[pt];rw[h i (Nat.le_refl i),CW n (i+1) [] a b fun k hk=>h k (by omega)]
 |n+1,i,(j,x)::l,a,b,h=>by
  simp only[pt]
  rw[h i (Nat.le_refl i),CW n (i+1) l a b fun k hk=>h k (by omega),CW n (i+1) ((j,x)::l) a b fun k hk=>h k (by omega)]
theorem Yn(n i:Nat)(l:List (Nat×T))(a:Nat→T)(t:T):pt n (i+1) l a=pt n (i+1) l fun k=>if k=i then t else a k:=
 CW _ _ _ _ _ fun k hk=>by simp only[if_neg (show ¬k=i by omega)]
theorem nc:∀{n i:Nat} {l:List (Nat×T)} {ts:List T},Fits n i l ts→∃a,ts=pt n i l a
 |0,_,_,[],_=>⟨fun _=> .undef,rfl⟩
 |0,_,_,_::_,h=>by simp[Fits]at h
 |n+1,i,[],[],h=>by simp[Fits]at h
 |n+1,i,_::_,[],h=>by simp[Fits]at h
 |n+1,i,[],t::ts,h=>by
  obtain⟨a,ha⟩:=nc (show Fits n (i+1) [] ts from h)
  refine⟨fun k=>if k=i then t else a k, ?_⟩
  simp only[pt,if_true,←Yn]
  rw[ha]
 |n+1,i,(j,x)::l,t::ts,h=>by
  simp only[Fits]at h
  obtain⟨h1,h2⟩:=h
  obtain⟨a,ha⟩:=nc h2
  refine⟨fun k=>if k=i then t else a k, ?_⟩
  simp only[pt,if_true,←Yn]
  by_cases LL:i=j
  ·rw[if_pos LL]at ha⊢
   rw[ha,h1 LL]
  ·rw[if_neg LL]at ha⊢
   rw[ha]
def bp:Nat→Nat→List (Nat×Option (List T))→List (Option (List T))
 |0,_,_=>[]
 |n+1,i,[]=>none::bp n (i+1) []
 |n+1,i,(j,x)::l=>if i=j then x::bp n (i+1) l else none::bp n (i+1) ((j,x)::l)
def Af(o:Option (List T)):Prop:=∀s,St.ay s ⟨[],[],[o]⟩=true
theorem rb:Af none:=fun _=>rfl
theorem nf{cs:List T}(h:∀s,aR s cs=true):Af (some cs):=fun s=>by simp[h s]
section
variable{E:Env}{k:List Fr}{σ:St}{Q:Out→Prop}
def U2(J:St→Prop):Out→Prop
 | .norm σ=>J σ
 |_=>False
@[simp] theorem amj(J:St→Prop)(σ:St):U2 J (.norm σ)=J σ:=rfl
theorem adm{J:St→Prop}{a:IC}(h1:M E a [] σ (U2 J))(h2:∀σ',J σ'→N E k σ' Q):M E a k σ Q:=by
 obtain⟨n,o,h3,h4⟩:=h1
 refine⟨n,o,h3, ?_⟩
 cases o with
 |norm σ'=>exact h2 σ' h4
 |exit=>exact h4.elim
 |ret=>exact h4.elim
theorem Pb{J:St→Prop}{t:Bool}{a b:IC}(h1:t=true→M E a [] σ (U2 J))(h2:t=false→M E b [] σ (U2 J))(h3:∀σ',J σ'→N E k σ' Q):I1 E (.v (.bool t)) a b k σ Q:=
 pg (fun h=>adm (h1 h) h3) fun h=>adm (h2 h) h3
end
def IC.tl:IC→IC
 | .seq _ b=>b
 | .block _ a=>a
 | .loop a=>a
 | .cond _ a _=>a
 | .kT a=>a
 |c=>c
def IC.hd:IC→IC
 | .seq a _=>a
 | .cond _ _ b=>b
 |c=>c
end Go.Vi
end
