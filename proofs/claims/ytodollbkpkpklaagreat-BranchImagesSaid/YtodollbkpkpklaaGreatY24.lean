/-
  A claim's own text, joined by a small program out of: PzName.
-/
import Derived.Test.YtodollbkpkpklaaGreatY23
import Derived.Test.YtodollbkpkpklaaGreatY3
import Derived.Shelf.Strings.FuncGrows
import Derived.KernelRfl
set_option linter.unusedVariables false
set_option linter.unusedSimpArgs false
section
set_option maxRecDepth 1000000
namespace Go.Vi.Zz
open Go Go.Vi Go.Proofs Go.Shelf Go.RowKit
theorem ahg:Uq Tryz.prog E0:=⟨fun f fR h=>SS h,fun f g args r h=>by cases h⟩
theorem YH(x:Nat):Ev E0 xB [.v (.int .i32 x)] (.v (.bool (eX x))):=by
 refine aB (fn:=td) rfl (by decide) rfl rfl rfl ?_
 unfold eX
 simp[td]
 repeat' (first|refine kB (fun h=> ?_) (fun h=> ?_)|refine pg (fun h=> ?_) (fun h=> ?_))<;>simp[*]
 all_goals
  simp only[decide_eq_true_eq,decide_eq_false_iff_not,beq_iff_eq,beq_eq_false_iff_ne,ne_eq]at*
  first
  |omega
  |(rw[Bool.eq_iff_iff];simp only[Bool.or_eq_true,Bool.and_eq_true,decide_eq_true_eq,beq_iff_eq];omega)
theorem Pn(x:Nat):Ev E0 iB [.v (.int .i32 x)] (.v (.bool (!eX x))):=by
 refine aB (fn:=qT) rfl (by decide) rfl rfl rfl ?_
 have h:=af (YH x)
 simp[qT,h]
def ρi:Ren:=⟨fun x=>if x=315 then 161 else x,fun t=>if t=40 then 208 else t,fun x=>x⟩
theorem akw:Lays.n315 Tryz.prog ρi where
 mixed:=by kernel_rfl
 f315:=by kernel_rfl
 t0:=by kernel_rfl
 a0:=fun w=>by kernel_rfl
 z0:=fun w=>by kernel_rfl
 v0:=fun w=>by kernel_rfl
 t3:=by kernel_rfl
 a3:=fun w=>by kernel_rfl
 z3:=fun w=>by kernel_rfl
 v3:=fun w=>by kernel_rfl
 t4:=by kernel_rfl
 a4:=fun w=>by kernel_rfl
 z4:=fun w=>by kernel_rfl
 v4:=fun w=>by kernel_rfl
 t9:=by kernel_rfl
 a9:=fun w=>by kernel_rfl
 z9:=fun w=>by kernel_rfl
 v9:=fun w=>by kernel_rfl
 t21:=by kernel_rfl
 a21:=fun w=>by kernel_rfl
 z21:=fun w=>by kernel_rfl
 v21:=fun w=>by kernel_rfl
 t40:=by kernel_rfl
 a40:=fun w=>by kernel_rfl
 z40:=fun w=>by kernel_rfl
 v40:=fun w=>by kernel_rfl
theorem ae1(W:World)(x:Nat):Calls Tryz.prog iB #[.int .i32 x] W fun e w'=>e= .returned (.bool (!eX x))∧Below W.heap.size W w':=by
 obtain⟨n,hn⟩:=Pn x
 have h:=jY ahg n _ _ _ hn
 unfold Sound at h
 rw[if_pos (by decide)]at h
 refine(h.2 W (fun _ _=>False) #[.int .i32 x] (fun b o h=>h.elim) rfl (fun i v t hv ht=> ?_)).mono fun e w' hp=> ?_
 ·match i,hv,ht with
  |0,hv,ht=>
   simp at hv ht
   subst hv ht
   exact .v ..
  |i+1,hv,_=>simp at hv
 ·obtain⟨v,rfl,hb,S',φ,_,_,hr,_⟩:=hp
  rw[cA hr]
  exact⟨rfl,hb⟩
theorem YI(args:List T)(r:T)(h:Po args=some r):Sound Tryz.prog jB args r:=by
 unfold Po at h
 split at h<;>try(cases h;done)
 rename_i s f a b U7
 split at h<;>try(cases h;done)
 rename_i hc
 obtain⟨rfl,ha,hb⟩:=hc
 obtain rfl:=Array.eq_empty_of_size_eq_zero ha
 obtain rfl:=Array.eq_empty_of_size_eq_zero hb
 simp only[Option.some.injEq]at h
 subst h
 unfold Sound
 rw[if_pos (by decide)]
 refine⟨by kernel_rfl,fun w S vs hS hl hr=> ?_⟩
 obtain⟨x0,x1,x2,rfl⟩:∃a b c,vs=#[a,b,c]:=by
  match vs,hl with
  |⟨[a,b,c]⟩,_=>exact⟨a,b,c,rfl⟩
 have r0:=cA (hr 0 x0 _ rfl rfl)
 have r1:=cA (hr 1 x1 _ rfl rfl)
 have r2:=cA (hr 2 x2 _ rfl rfl)
 subst r0 r1 r2
 have jl:=Any.strings_indexFunc_grows akw iB #[] (enters_of (f:=iB) (fn:=Tryz.f157) (by kernel_rfl) (by kernel_rfl) rfl) (fun c=> !eX c) U7 s w (fun W x _ _=>by
  have:=ae1 W x
  simpa [encR]using this)
 refine Calls.mono jl fun e w' hp=> ?_
 obtain⟨rfl,hb⟩:=hp
 exact⟨_,rfl,hb,S,cD,fun b o h=> .inl h,fun b o h=>Nat.lt_of_lt_of_le (hS b o h) hb.size,.v ..,(fun k x e hk=>by cases hk),(fun k k' x x' e e' hk=>by cases hk)⟩
end Go.Vi.Zz
end
