/-
  A claim's own text, joined by a small program out of: ZzEnv.
-/
import Derived.Test.YtodollbkpkpklaaGreatProg
import Derived.Test.YtodollbkpkpklaaGreatY17
import Derived.Test.YtodollbkpkpklaaGreatY0
import Derived.KernelRfl
set_option linter.unusedVariables false
set_option linter.unusedSimpArgs false
section
set_option maxRecDepth 100000
namespace Go.Vi.Zz
open Go Go.Vi Go.Proofs
def io:Go.FuncId→Nat
 |64=>1
 |70=>1
 |_=>0
def iov(l:List (Nat×Nat))(f:Go.FuncId):Nat:=match l.find? (fun p=>p.1==f)with|some p=>p.2|none=>io f
def uu:List Nat→List Nat
 |a::n::l=>List.range' a n++uu l
 |_=>[]
def Lw(f:FuncId)(c:aC):Prop:=∃(io:FuncId→Nat) (bN:List Nat→Array Oper→List (Option (Nat×Bool)×IOp)→Bool) (vm bm:List Nat) (h:Hints) (canon:List CM) (split:Bool) (fn:Func),mU Tryz.prog bN∧Tryz.prog.funcs[f]? =some fn∧(fn.name== "runtime.NumGoroutine")=false∧lower Tryz.prog io bN vm bm h canon split fn=some c
theorem mixed:Tryz.prog.follows .mixedOrders=true:=by kernel_rfl
theorem lw{f:FuncId}{c:aC}(io:FuncId→Nat)(vm bm:List Nat)(h:Hints)(canon:List CM)(split:Bool)(fn:Func)(h1:Tryz.prog.funcs[f]? =some fn)(h2:(fn.name== "runtime.NumGoroutine")=false)(h3:lower Tryz.prog io bN vm bm h canon split fn=some c):Lw f c:=⟨io,bN,vm,bm,h,canon,split,fn,Xr mixed,h1,h2,h3⟩
theorem e3:Lw 3 vk:=lw io (uu [0,6,10,9,21,1,58,1]) [5,15,17] [] [.raw] false Tryz.f3 (by kernel_rfl) (by kernel_rfl) (by kernel_rfl)
theorem e4:Lw 4 wD:=lw io [0,1,2,3,6,9] [3] [] [.raw] false Tryz.f4 (by kernel_rfl) (by kernel_rfl) (by kernel_rfl)
theorem e5:Lw 5 jh:=lw io (uu [0,2,4,2,7,6,15,1,23,1,68,1]) [5,9,11] [([4,8,9,10,11,12,15,23,68],[9,11])] [.raw] false Tryz.f5 (by kernel_rfl) (by kernel_rfl) (by kernel_rfl)
theorem e6:Lw 6 Gr:=lw io [0,2] [] [] [.raw] false Tryz.f6 (by kernel_rfl) (by kernel_rfl) (by kernel_rfl)
theorem e7:Lw 7 xC:=lw io (uu [0,8]) [1,4] [] [.raw] false Tryz.f7 (by kernel_rfl) (by kernel_rfl) (by kernel_rfl)
theorem e8:Lw 8 ky:=lw io (uu [0,3,4,8,16,1,21,4,34,1]) [2,10] [([0,1,2,4,5,8,9,10,11,16,24,34],[10])] [.raw,.raw] false Tryz.f8 (by kernel_rfl) (by kernel_rfl) (by kernel_rfl)
theorem e9:Lw 9 nE:=lw io (uu [0,3,4,7,14,1,20,1,32,1]) [2,9] [([0,4,5,9,10,14,20,32],[9])] [.raw,.raw] false Tryz.f9 (by kernel_rfl) (by kernel_rfl) (by kernel_rfl)
theorem e10:Lw 10 uv:=lw io [0,1,4,5,10,12,13,14,24] [] [([4,5,10,14,24],[])] [.raw] false Tryz.f10 (by kernel_rfl) (by kernel_rfl) (by kernel_rfl)
theorem e11:Lw 11 wE:=lw io [0,1,4,5,10,12,13,14,24] [] [([4,5,10,14,24],[])] [.raw] false Tryz.f11 (by kernel_rfl) (by kernel_rfl) (by kernel_rfl)
theorem e12:Lw 12 mo:=lw io [0,1,4] [] [] [.raw] false Tryz.f12 (by kernel_rfl) (by kernel_rfl) (by kernel_rfl)
theorem e13:Lw 13 xD:=lw io [0,1,2,3,5,8] [5] [] [.raw] false Tryz.f13 (by kernel_rfl) (by kernel_rfl) (by kernel_rfl)
theorem e14:Lw 14 j7:=lw io (uu [0,4,5,1,8,7,28,1,41,1,44,1,57,1,66,1]) [5,9] [([1,8,12,13,14,28,41,44,57,66],[]),([1,8,28,41,44,57,66],[])] [.raw] false Tryz.f14 (by kernel_rfl) (by kernel_rfl) (by kernel_rfl)
theorem e15:Lw 15 ec:=lw io (uu [0,5,7,7,15,1,17,7,25,1,31,1,46,4,59,4,70,4,99,1,106,1,116,4]) [4,7,8,10,12,15,18,20,21,40,900057,900067,900103,900126] [((uu [0,2,3,2,7,1,9,1,15,1,17,7,25,1,31,1,49,1,59,4,70,4,99,1,106,1,116,4]),[15]),((uu [0,2,3,2,7,1,9,1,11,1,15,1,17,7,25,1,31,1,46,4,62,1,70,4,99,1,106,1,116,4]),[]),((uu [0,2,3,2,7,1,9,1,11,1,15,1,17,1,19,5,25,1,31,1,46,4,59,4,73,1,99,1,106,1,116,4]),[20,21]),([0,1,3,4,7,9,11,15,17,20,22,23,25,31,46,47,48,49,59,60,61,62,73,99,106,119],[])] [.raw,.raw] false Tryz.f15 (by kernel_rfl) (by kernel_rfl) (by kernel_rfl)
theorem e16:Lw 16 nF:=lw io (uu [0,5,8,16,27,1,38,1,58,1,68,1,88,1,112,1]) [4,8,12,17] [([0,9,17,18,19,20,21,22,23,27,38,58,68,88,112],[17]),([0,9,17,18,21,22,23,27,38,58,68,88,112],[]),([0,1,2,4,9,10,16,17,18,19,20,23,27,38,58,68,88,112],[]),([0,1,2,4,9,10,13,16,17,18,19,20,21,22,27,38,58,68,88,112],[])] [.raw,.raw] false Tryz.f16 (by kernel_rfl) (by kernel_rfl) (by kernel_rfl)
theorem e17:Lw 17 pR:=lw io [0,1,2,3,4,5,12,17,31] [2,3] [([0,1,4,12,17,31],[])] [.raw] false Tryz.f17 (by kernel_rfl) (by kernel_rfl) (by kernel_rfl)
theorem e18:Lw 18 jR:=lw io [0,1,4,5,10,12,13,14,24] [] [([4,5,10,14,24],[])] [.raw] false Tryz.f18 (by kernel_rfl) (by kernel_rfl) (by kernel_rfl)
theorem e19:Lw 19 ji:=lw io (uu [0,3,6,4,14,5,30,1]) [] [([0,6,7,8,9,14,18,30],[])] [.raw] false Tryz.f19 (by kernel_rfl) (by kernel_rfl) (by kernel_rfl)
theorem e20:Lw 20 lM:=lw io (uu [0,4,6,5,23,1,40,2]) [3,9] [] [.raw] false Tryz.f20 (by kernel_rfl) (by kernel_rfl) (by kernel_rfl)
theorem e21:Lw 21 o9:=lw io (uu [0,4,6,4,22,1,27,1]) [3] [([0,2,6,22,27],[])] [.raw] false Tryz.f21 (by kernel_rfl) (by kernel_rfl) (by kernel_rfl)
theorem e22:Lw 22 hY:=lw io [0,1,4,5,6] [5] [] [.raw] false Tryz.f22 (by kernel_rfl) (by kernel_rfl) (by kernel_rfl)
theorem e23:Lw 23 pa:=lw io [0,2,3,4,7,44] [2,4] [] [.raw,.raw] false Tryz.f23 (by kernel_rfl) (by kernel_rfl) (by kernel_rfl)
theorem e24:Lw 24 nX:=lw io [0,1,4] [] [] [.raw] false Tryz.f24 (by kernel_rfl) (by kernel_rfl) (by kernel_rfl)
theorem e25:Lw 25 Dk:=lw io [0,2] [] [] [.raw] false Tryz.f25 (by kernel_rfl) (by kernel_rfl) (by kernel_rfl)
theorem e26:Lw 26 yN:=lw io [0,1] [0,1] [] [.raw] false Tryz.f26 (by kernel_rfl) (by kernel_rfl) (by kernel_rfl)
theorem e27:Lw 27 xE:=lw io (uu [0,4]) [1] [] [.raw] false Tryz.f27 (by kernel_rfl) (by kernel_rfl) (by kernel_rfl)
theorem e28:Lw 28 iC:=lw io [0,1,2] [1] [] [.raw] false Tryz.f28 (by kernel_rfl) (by kernel_rfl) (by kernel_rfl)
theorem e29:Lw 29 jS:=lw io [0,2,3,4,5,6,21] [2,4] [] [.raw,.raw] false Tryz.f29 (by kernel_rfl) (by kernel_rfl) (by kernel_rfl)
theorem e30:Lw 30 oS:=lw io [0,1,2,4] [2] [] [.raw] false Tryz.f30 (by kernel_rfl) (by kernel_rfl) (by kernel_rfl)
theorem e31:Lw 31 rV:=lw io [0,2,3,4,5,8,12,42,76] [2,4] [([3,8,12,42,76],[])] [.raw,.raw] false Tryz.f31 (by kernel_rfl) (by kernel_rfl) (by kernel_rfl)
theorem e32:Lw 32 bX:=lw io (uu [0,3,4,6,23,1,37,3,48,1]) [2,5,6] [([0,4,7,8,9,23,37,39,48],[])] [.raw] false Tryz.f32 (by kernel_rfl) (by kernel_rfl) (by kernel_rfl)
theorem e33:Lw 33 kK:=lw io [0,1,2,3,4,6,10,11,12,25,33] [6] [] [.raw,.raw] false Tryz.f33 (by kernel_rfl) (by kernel_rfl) (by kernel_rfl)
theorem e34:Lw 34 nB:=lw io (uu [0,5]) [] [] [] false Tryz.f34 (by kernel_rfl) (by kernel_rfl) (by kernel_rfl)
theorem e35:Lw 35 rW:=lw io (uu [0,2,4,7,15,3,30,1]) [5,6,7,9,13] [] [.raw] false Tryz.f35 (by kernel_rfl) (by kernel_rfl) (by kernel_rfl)
theorem e36:Lw 36 cy:=lw io (uu [0,3,4,4,15,1]) [2,4] [] [.raw,.raw] false Tryz.f36 (by kernel_rfl) (by kernel_rfl) (by kernel_rfl)
theorem e37:Lw 37 gx:=lw (iov [(69,2)]) (uu [0,4,6,9,16,3,28,1,38,4,48,1]) [3,16,37,57,40000007] [((uu [0,1,6,2,10,5,16,1,18,1,28,1,38,4,48,1]),[]),([0,6,7,10,11,12,13,14,16,18,28,41,48],[16])] [.raw,.raw] false Tryz.f37 (by kernel_rfl) (by kernel_rfl) (by kernel_rfl)
theorem e38:Lw 38 gy:=lw io (uu [0,1,2,2,5,2,8,5,20,1,25,4]) [24,33] [([2,5,6,8,12,20,25,26,27,28],[]),([0,2,3,5,8,9,10,11,12,20,28],[])] [.raw] false Tryz.f38 (by kernel_rfl) (by kernel_rfl) (by kernel_rfl)
theorem e39:Lw 39 pS:=lw io (uu [0,6,10,9,26,1,50,1,59,1]) [5,10,13,14] [] [.raw,.raw,.raw] false Tryz.f39 (by kernel_rfl) (by kernel_rfl) (by kernel_rfl)
theorem e40:Lw 40 pB:=lw io [0,1,2,3,8] [8] [] [.raw] false Tryz.f40 (by kernel_rfl) (by kernel_rfl) (by kernel_rfl)
theorem e41:Lw 41 vZ:=lw io [0,1,4,5,6,7,12,16,34] [] [([4,7,12,16,34],[]),([4,12,16,34],[])] [.raw] false Tryz.f41 (by kernel_rfl) (by kernel_rfl) (by kernel_rfl)
theorem e42:Lw 42 oy:=lw io (uu [0,5]) [2,3] [] [.raw] false Tryz.f42 (by kernel_rfl) (by kernel_rfl) (by kernel_rfl)
theorem e43:Lw 43 uw:=lw io [0,1,2,4] [2] [] [.raw] false Tryz.f43 (by kernel_rfl) (by kernel_rfl) (by kernel_rfl)
theorem e44:Lw 44 rX:=lw io [0,1,2,5] [1] [] [.raw] false Tryz.f44 (by kernel_rfl) (by kernel_rfl) (by kernel_rfl)
theorem e45:Lw 45 gM:=lw io (uu [0,5,6,1]) [2,3] [] [.raw] false Tryz.f45 (by kernel_rfl) (by kernel_rfl) (by kernel_rfl)
theorem e46:Lw 46 gN:=lw io [0,2,4] [7] [] [.box 0] true Tryz.f46 (by kernel_rfl) (by kernel_rfl) (by kernel_rfl)
theorem e47:Lw 47 js:=lw io [0,1,2,4,17,19] [2] [] [.raw] false Tryz.f47 (by kernel_rfl) (by kernel_rfl) (by kernel_rfl)
theorem e48:Lw 48 oT:=lw io [0,1,2,5] [1] [] [.raw] false Tryz.f48 (by kernel_rfl) (by kernel_rfl) (by kernel_rfl)
theorem e49:Lw 49 sU:=lw io [0,1,2] [1] [] [.raw] false Tryz.f49 (by kernel_rfl) (by kernel_rfl) (by kernel_rfl)
theorem e50:Lw 50 sV:=lw io [0,1,2,20,38] [1] [] [.raw] false Tryz.f50 (by kernel_rfl) (by kernel_rfl) (by kernel_rfl)
theorem e51:Lw 51 pT:=lw io [0,1,4,5,10,14,25] [] [([4,10,14,25],[])] [.raw] false Tryz.f51 (by kernel_rfl) (by kernel_rfl) (by kernel_rfl)
theorem e52:Lw 52 oU:=lw io [0,1,2] [1] [] [.raw] false Tryz.f52 (by kernel_rfl) (by kernel_rfl) (by kernel_rfl)
theorem e53:Lw 53 pU:=lw io [0,1,4,5,7,8,9,16] [] [([4,5,9,16],[])] [.raw] false Tryz.f53 (by kernel_rfl) (by kernel_rfl) (by kernel_rfl)
theorem e54:Lw 54 Gs:=lw io [0,2] [2] [] [.raw] false Tryz.f54 (by kernel_rfl) (by kernel_rfl) (by kernel_rfl)
theorem e55:Lw 55 xF:=lw io (uu [0,9,11,1,19,1,28,1,42,1]) [1,6] [([0,2,3,6,7,8,11,19,28,42],[6])] [.raw,.raw] false Tryz.f55 (by kernel_rfl) (by kernel_rfl) (by kernel_rfl)
theorem e56:Lw 56 wa:=lw io [0,1,2,20] [1] [] [.raw] false Tryz.f56 (by kernel_rfl) (by kernel_rfl) (by kernel_rfl)
theorem e57:Lw 57 lN:=lw io (uu [0,1,2,5,8,3]) [2,3,6] [([5,6,10],[6])] [.raw] false Tryz.f57 (by kernel_rfl) (by kernel_rfl) (by kernel_rfl)
theorem e58:Lw 58 jT:=lw io (uu [0,5,6,2,11,1,17,3]) [1,6] [([0,1,2,3,6,7,11,19],[6])] [.raw,.raw] false Tryz.f58 (by kernel_rfl) (by kernel_rfl) (by kernel_rfl)
theorem e59:Lw 59 lx:=lw io [0,1,2,6,7,8,9,30,34] [] [([2,6,7,30,34],[])] [.raw,.raw] false Tryz.f59 (by kernel_rfl) (by kernel_rfl) (by kernel_rfl)
theorem e60:Lw 60 dB:=lw io [0,1,2,3,6,44,57,59,79] [1] [([0,2,6,44,57,59,79],[])] [.raw] false Tryz.f60 (by kernel_rfl) (by kernel_rfl) (by kernel_rfl)
theorem e61:Lw 61 ig:=lw io [0,1,2,3,4,7,31] [1] [([0,2,7,31],[])] [.raw] false Tryz.f61 (by kernel_rfl) (by kernel_rfl) (by kernel_rfl)
theorem e62:Lw 62 aM:=lw io (uu [0,4,6,4,23,1]) [3,8] [] [.raw,.raw] false Tryz.f62 (by kernel_rfl) (by kernel_rfl) (by kernel_rfl)
theorem e63:Lw 63 gl:=lw io [0,1,2,3,8,9,10,11,27,41,44,48,69] [] [([1,8,11,27,41,44,48,69],[]),([1,8,27,41,44,48,69],[])] [.raw] false Tryz.f63 (by kernel_rfl) (by kernel_rfl) (by kernel_rfl)
theorem e64:Lw 64 qR:=lw io (uu [0,2,3,5,9,1,12,3,31,1]) [3,5,6,8,10] [] [.raw] false Tryz.f64 (by kernel_rfl) (by kernel_rfl) (by kernel_rfl)
theorem e65:Lw 65 oz:=lw io [0,1,2] [1] [] [.raw] false Tryz.f65 (by kernel_rfl) (by kernel_rfl) (by kernel_rfl)
theorem e66:Lw 66 ux:=lw io [0,2,3,4,5,6,15,71] [2,4] [] [.raw,.raw] false Tryz.f66 (by kernel_rfl) (by kernel_rfl) (by kernel_rfl)
theorem e67:Lw 67 oV:=lw io (uu [0,2,4,9,23,1,27,2,36,1,42,1]) [6,7,8,10] [] [.raw,.raw] false Tryz.f67 (by kernel_rfl) (by kernel_rfl) (by kernel_rfl)
theorem e68:Lw 68 ed:=lw io (uu [0,6,8,1,31,1]) [4,5] [] [.raw] false Tryz.f68 (by kernel_rfl) (by kernel_rfl) (by kernel_rfl)
theorem e70:Lw 70 iD:=lw io [0,1,4,6,16] [22] [] [.box 0] false Tryz.f70 (by kernel_rfl) (by kernel_rfl) (by kernel_rfl)
theorem e71:Lw 71 rY:=lw io [0,2,3,4,14,68] [2,4] [] [.raw,.raw] false Tryz.f71 (by kernel_rfl) (by kernel_rfl) (by kernel_rfl)
theorem e72:Lw 72 pC:=lw io (uu [0,6,10,11,24,1,37,1,44,1,70,1,79,1]) [5,18] [([0,10,11,15,16,17,18,19,20,24,37,44,70,79],[]),([0,10,11,16,18,19,20,24,37,44,70,79],[18])] [.raw,.raw] false Tryz.f72 (by kernel_rfl) (by kernel_rfl) (by kernel_rfl)
theorem e73:Lw 73 pD:=lw io [0,1,2,4,6] [2] [] [.raw] false Tryz.f73 (by kernel_rfl) (by kernel_rfl) (by kernel_rfl)
theorem e74:Lw 74 uz:=lw io [0,1,4,5,10,14,25] [] [([4,10,14,25],[])] [.raw] false Tryz.f74 (by kernel_rfl) (by kernel_rfl) (by kernel_rfl)
theorem e75:Lw 75 fX:=lw io [0,1,2,4,5,18] [2] [] [.raw] false Tryz.f75 (by kernel_rfl) (by kernel_rfl) (by kernel_rfl)
theorem e76:Lw 76 oA:=lw io [0,1,2] [1] [] [.raw] false Tryz.f76 (by kernel_rfl) (by kernel_rfl) (by kernel_rfl)
theorem e77:Lw 77 tI:=lw io [0,1,2,4,5,9,30] [] [([5,9,30],[])] [] false Tryz.f77 (by kernel_rfl) (by kernel_rfl) (by kernel_rfl)
theorem e78:Lw 78 j8:=lw io [0,2,3,4,7,13] [] [([2,7,13],[])] [.raw] false Tryz.f78 (by kernel_rfl) (by kernel_rfl) (by kernel_rfl)
theorem e79:Lw 79 Dl:=lw io [0,1,2,3,24,29,40] [1] [([0,2,24,29,40],[])] [.raw] false Tryz.f79 (by kernel_rfl) (by kernel_rfl) (by kernel_rfl)
theorem e80:Lw 80 pE:=lw io (uu [0,14,21,1,42,1,48,1,58,1,75,1]) [2,3,10,11] [([0,1,4,5,10,11,12,13,21,42,48,58,75],[10,11]),([0,1,4,5,13,21,42,48,58,75],[])] [.raw,.raw] false Tryz.f80 (by kernel_rfl) (by kernel_rfl) (by kernel_rfl)
theorem e81:Lw 81 Dm:=lw io [0] [] [] [.raw] false Tryz.f81 (by kernel_rfl) (by kernel_rfl) (by kernel_rfl)
theorem e82:Lw 82 uA:=lw io [0,1,2,6] [] [] [.raw] false Tryz.f82 (by kernel_rfl) (by kernel_rfl) (by kernel_rfl)
theorem e83:Lw 83 pF:=lw io [0,1,2] [1,2] [] [.raw] false Tryz.f83 (by kernel_rfl) (by kernel_rfl) (by kernel_rfl)
theorem e84:Lw 84 wF:=lw io (uu [0,3,6,5,15,1,21,4]) [] [([0,1,2,6,7,9,10,15,24],[])] [.raw,.raw] false Tryz.f84 (by kernel_rfl) (by kernel_rfl) (by kernel_rfl)
theorem e85:Lw 85 oW:=lw io [0,1,2,4,7,9,10,11,22] [1,4] [([0,2,4,7,11,22],[4])] [.raw] false Tryz.f85 (by kernel_rfl) (by kernel_rfl) (by kernel_rfl)
theorem e86:Lw 86 wG:=lw (iov [(46,1),(114,2)]) [0,1,2,6,7,13] [9,17,60000006] [] [.raw] false Tryz.f86 (by kernel_rfl) (by kernel_rfl) (by kernel_rfl)
theorem e87:Lw 87 qS:=lw io [0,2,3] [3] [] [.raw] false Tryz.f87 (by kernel_rfl) (by kernel_rfl) (by kernel_rfl)
theorem e88:Lw 88 sW:=lw io [0,2] [] [] [.raw] false Tryz.f88 (by kernel_rfl) (by kernel_rfl) (by kernel_rfl)
theorem e89:Lw 89 sX:=lw io [0,1,4] [] [] [.raw] false Tryz.f89 (by kernel_rfl) (by kernel_rfl) (by kernel_rfl)
theorem e90:Lw 90 sY:=lw io [0,1,4,5,6,10] [] [([4,10],[])] [.raw] false Tryz.f90 (by kernel_rfl) (by kernel_rfl) (by kernel_rfl)
theorem e91:Lw 91 Dn:=lw io [0,1,2,3,8,10,14,16,23] [10] [([0,1,8,10,16,23],[10])] [.raw] false Tryz.f91 (by kernel_rfl) (by kernel_rfl) (by kernel_rfl)
theorem e92:Lw 92 mI:=lw io [0,2,4] [] [] [.raw] true Tryz.f92 (by kernel_rfl) (by kernel_rfl) (by kernel_rfl)
theorem e93:Lw 93 mJ:=lw io (uu [0,2,3,8,20,4,39,1]) [4] [((uu [1,1,3,4,10,1,20,4,39,1]),[4]),([1,4,5,6,10,23,39],[])] [] false Tryz.f93 (by kernel_rfl) (by kernel_rfl) (by kernel_rfl)
theorem e94:Lw 94 uB:=lw io (uu [0,6,8,1]) [1,4] [] [.raw,.raw] false Tryz.f94 (by kernel_rfl) (by kernel_rfl) (by kernel_rfl)
theorem e95:Lw 95 jU:=lw io [0,1,4,5,6,7,8,9,12,18,47] [4,7] [] [.raw,.raw,.raw] false Tryz.f95 (by kernel_rfl) (by kernel_rfl) (by kernel_rfl)
theorem e96:Lw 96 gJ:=lw io [0,1,4] [] [] [.raw] false Tryz.f96 (by kernel_rfl) (by kernel_rfl) (by kernel_rfl)
theorem e97:Lw 97 jV:=lw io (uu [0,4]) [2] [] [.raw] false Tryz.f97 (by kernel_rfl) (by kernel_rfl) (by kernel_rfl)
theorem aoc:Lw 100 fm:=lw io [0,1,2,3,26,44,63] [1,3] [] [.raw] false Tryz.f100 (by kernel_rfl) (by kernel_rfl) (by kernel_rfl)
theorem aod:Lw 101 sZ:=lw io [0,1,2,3,4,17,24] [1] [([0,2,17,24],[])] [.raw] false Tryz.f101 (by kernel_rfl) (by kernel_rfl) (by kernel_rfl)
theorem aoe:Lw 102 rZ:=lw io [0,1,4,5,6,7,9,10,11,14,18,41] [4,11] [] [.raw,.raw,.raw] false Tryz.f102 (by kernel_rfl) (by kernel_rfl) (by kernel_rfl)
theorem aof:Lw 103 lO:=lw io [0,1,2,3,4,8,9,35,39,49] [4] [([0,1,2,8,35,39,49],[])] [.raw] false Tryz.f103 (by kernel_rfl) (by kernel_rfl) (by kernel_rfl)
theorem aog:Lw 104 mK:=lw io [0,1,2] [1] [] [.raw] false Tryz.f104 (by kernel_rfl) (by kernel_rfl) (by kernel_rfl)
theorem aoh:Lw 105 r9:=lw io [0,1,2,6,7,13] [] [] [.raw] false Tryz.f105 (by kernel_rfl) (by kernel_rfl) (by kernel_rfl)
theorem aoi:Lw 106 mL:=lw io [0,2,3,4] [] [] [.raw] false Tryz.f106 (by kernel_rfl) (by kernel_rfl) (by kernel_rfl)
theorem aoj:Lw 107 Dp:=lw io [0,1,2,3,4,6,7,13,18,29] [3,4] [([0,1,3,6,13,18,29],[])] [.raw] false Tryz.f107 (by kernel_rfl) (by kernel_rfl) (by kernel_rfl)
theorem aok:Lw 108 Dq:=lw io [0,1,2,4,5,7,16,27] [2] [([0,4,7,16,27],[])] [.raw] false Tryz.f108 (by kernel_rfl) (by kernel_rfl) (by kernel_rfl)
theorem aol:Lw 109 s6:=lw io [0,1,2,4,5,6,8,14,26,33] [2] [([0,4,8,14,26,33],[])] [.raw] false Tryz.f109 (by kernel_rfl) (by kernel_rfl) (by kernel_rfl)
theorem aom:Lw 110 Gt:=lw io [0,2,3,4,5,6,15,21,25] [7,60000002] [([2,5,6,15,21,25],[]),([2,15,21,25],[])] [.raw] false Tryz.f110 (by kernel_rfl) (by kernel_rfl) (by kernel_rfl)
theorem aon:Lw 111 sa:=lw io [0,1,2,6] [] [] [.raw] false Tryz.f111 (by kernel_rfl) (by kernel_rfl) (by kernel_rfl)
theorem aoo:Lw 112 pb:=lw io [0,1,2,3,6,7,12] [1,3] [] [.raw] false Tryz.f112 (by kernel_rfl) (by kernel_rfl) (by kernel_rfl)
theorem aop:Lw 113 pc:=lw io [0,1,4] [] [] [.raw] false Tryz.f113 (by kernel_rfl) (by kernel_rfl) (by kernel_rfl)
theorem aoq:Lw 114 zK:=lw io [0,1,4,6,7,8] [] [([4,8],[])] [] false Tryz.f114 (by kernel_rfl) (by kernel_rfl) (by kernel_rfl)
theorem aor:Lw 115 vB:=lw io [0,2,3] [] [] [.raw] false Tryz.f115 (by kernel_rfl) (by kernel_rfl) (by kernel_rfl)
theorem aos:Lw 116 fY:=lw io [0,1,2,24,43] [1] [] [.raw] false Tryz.f116 (by kernel_rfl) (by kernel_rfl) (by kernel_rfl)
theorem aot:Lw 117 oX:=lw io [0,2,3,4,13,30] [] [] [.raw,.raw] false Tryz.f117 (by kernel_rfl) (by kernel_rfl) (by kernel_rfl)
theorem aou:Lw 118 pd:=lw io [0,1,2,3,6] [1] [] [.raw,.raw] false Tryz.f118 (by kernel_rfl) (by kernel_rfl) (by kernel_rfl)
theorem aov:Lw 119 jj:=lw io [0,1,4,5,7,8,9,16] [] [([4,5,9,16],[])] [.raw] false Tryz.f119 (by kernel_rfl) (by kernel_rfl) (by kernel_rfl)
theorem aow:Lw 131 s7:=lw io [0,1,4] [] [] [.raw] false Tryz.f131 (by kernel_rfl) (by kernel_rfl) (by kernel_rfl)
theorem aox:Lw 132 wb:=lw io [0,1,4] [] [] [.raw] false Tryz.f132 (by kernel_rfl) (by kernel_rfl) (by kernel_rfl)
theorem aoy:Lw 133 nG:=lw io [0,2,3,4,5,6,16,29,31,42] [] [([2,3,16,29,31,42],[])] [.raw,.raw] false Tryz.f133 (by kernel_rfl) (by kernel_rfl) (by kernel_rfl)
theorem aoz:Lw 134 s8:=lw io [0,1,2] [1] [] [.raw] false Tryz.f134 (by kernel_rfl) (by kernel_rfl) (by kernel_rfl)
theorem aoA:Lw 135 mq:=lw io [0,1,4,5,6,13,16] [] [([4,13,16],[])] [.raw] false Tryz.f135 (by kernel_rfl) (by kernel_rfl) (by kernel_rfl)
theorem aoB:Lw 136 j9:=lw io [0,2,3,4,5,6,10] [] [([2,3,10],[])] [.raw,.raw] false Tryz.f136 (by kernel_rfl) (by kernel_rfl) (by kernel_rfl)
theorem aoC:Lw 137 D2:=lw io [0,1,2,3,4,6,7,8,9,12,64,89,94,129,132,154] [3,4,8] [([0,1,6,8,9,12,64,89,94,129,132,154],[8]),([0,1,6,12,64,89,94,129,132,154],[])] [.raw] false Tryz.f137 (by kernel_rfl) (by kernel_rfl) (by kernel_rfl)
theorem aoD:Lw 138 Dr:=lw io [0,1,4,5,6,7,8,11,19,46] [] [([4,7,8,11,19,46],[]),([4,11,19,46],[])] [.raw] false Tryz.f138 (by kernel_rfl) (by kernel_rfl) (by kernel_rfl)
theorem aoE:Lw 139 we:=lw io [0,2] [] [] [.raw] false Tryz.f139 (by kernel_rfl) (by kernel_rfl) (by kernel_rfl)
theorem aoF:Lw 140 x4:=lw io (uu [0,1,2,2,5,6]) [] [([0,2,5,6,10],[])] [.raw] false Tryz.f140 (by kernel_rfl) (by kernel_rfl) (by kernel_rfl)
theorem aoG:Lw 141 s9:=lw io [0,1,4] [] [] [.raw] false Tryz.f141 (by kernel_rfl) (by kernel_rfl) (by kernel_rfl)
theorem aoH:Lw 142 wg:=lw io [0,1,2,4,7,11,15,20] [2,4] [] [.raw] false Tryz.f142 (by kernel_rfl) (by kernel_rfl) (by kernel_rfl)
theorem aoI:Lw 143 ka:=lw io [0,2,18] [] [] [.raw] false Tryz.f143 (by kernel_rfl) (by kernel_rfl) (by kernel_rfl)
theorem aoJ:Lw 144 sc:=lw io [0,2,3,6] [3] [] [.raw] false Tryz.f144 (by kernel_rfl) (by kernel_rfl) (by kernel_rfl)
theorem aoK:Lw 145 ta:=lw io [0,1,2] [1] [] [.raw] false Tryz.f145 (by kernel_rfl) (by kernel_rfl) (by kernel_rfl)
theorem aoL:Lw 152 pV:=lw io [0,2,3,4,7,13,19] [] [([2,7,13,19],[])] [.raw] false Tryz.f152 (by kernel_rfl) (by kernel_rfl) (by kernel_rfl)
theorem aoM:Lw 153 jt:=lw io [0,2,3,19,23,30] [] [([2,19,23,30],[])] [.raw] false Tryz.f153 (by kernel_rfl) (by kernel_rfl) (by kernel_rfl)
theorem aoN:Lw 154 Dt:=lw io [0,1,2] [1] [] [.raw] false Tryz.f154 (by kernel_rfl) (by kernel_rfl) (by kernel_rfl)
theorem aoO:Lw 155 uC:=lw io [0,2,4] [] [] [.raw] false Tryz.f155 (by kernel_rfl) (by kernel_rfl) (by kernel_rfl)
theorem aoP:Lw 156 l5:=lw io [0,1,4] [] [] [.raw] false Tryz.f156 (by kernel_rfl) (by kernel_rfl) (by kernel_rfl)
theorem aoQ:Lw 157 qT:=lw io [0,2] [] [] [.raw] false Tryz.f157 (by kernel_rfl) (by kernel_rfl) (by kernel_rfl)
theorem aoR:Lw 158 td:=lw io [0,2,3] [] [] [.raw] false Tryz.f158 (by kernel_rfl) (by kernel_rfl) (by kernel_rfl)
theorem aoS:Lw 160 qU:=lw io [0,2] [] [] [.raw] false Tryz.f160 (by kernel_rfl) (by kernel_rfl) (by kernel_rfl)
theorem aoT:Lw 161 vn:=lw io (uu [0,3,6,3,10,3,19,1]) [] [([0,6,7,8,11,12,19],[])] [.raw] false Tryz.f161 (by kernel_rfl) (by kernel_rfl) (by kernel_rfl)
theorem SS{f:FuncId}{fR:aC}(h:code f=some fR):Lw f fR:=by
 unfold code at h
 split at h
 ·cases h;exact e3
 ·cases h;exact e4
 ·cases h;exact e5
 ·cases h;exact e6
 ·cases h;exact e7
 ·cases h;exact e8
 ·cases h;exact e9
 ·cases h;exact e10
 ·cases h;exact e11
 ·cases h;exact e12
 ·cases h;exact e13
 ·cases h;exact e14
 ·cases h;exact e15
 ·cases h;exact e16
 ·cases h;exact e17
 ·cases h;exact e18
 ·cases h;exact e19
 ·cases h;exact e20
 ·cases h;exact e21
 ·cases h;exact e22
 ·cases h;exact e23
 ·cases h;exact e24
 ·cases h;exact e25
 ·cases h;exact e26
 ·cases h;exact e27
 ·cases h;exact e28
 ·cases h;exact e29
 ·cases h;exact e30
 ·cases h;exact e31
 ·cases h;exact e32
 ·cases h;exact e33
 ·cases h;exact e34
 ·cases h;exact e35
 ·cases h;exact e36
 ·cases h;exact e37
 ·cases h;exact e38
 ·cases h;exact e39
 ·cases h;exact e40
 ·cases h;exact e41
 ·cases h;exact e42
 ·cases h;exact e43
 ·cases h;exact e44
 ·cases h;exact e45
 ·cases h;exact e46
 ·cases h;exact e47
 ·cases h;exact e48
 ·cases h;exact e49
 ·cases h;exact e50
 ·cases h;exact e51
 ·cases h;exact e52
 ·cases h;exact e53
 ·cases h;exact e54
 ·cases h;exact e55
 ·cases h;exact e56
 ·cases h;exact e57
 ·cases h;exact e58
 ·cases h;exact e59
 ·cases h;exact e60
 ·cases h;exact e61
 ·cases h;exact e62
 ·cases h;exact e63
 ·cases h;exact e64
 ·cases h;exact e65
 ·cases h;exact e66
 ·cases h;exact e67
 ·cases h;exact e68
 ·cases h;exact e70
 ·cases h;exact e71
 ·cases h;exact e72
 ·cases h;exact e73
 ·cases h;exact e74
 ·cases h;exact e75
 ·cases h;exact e76
 ·cases h;exact e77
 ·cases h;exact e78
 ·cases h;exact e79
 ·cases h;exact e80
 ·cases h;exact e81
 ·cases h;exact e82
 ·cases h;exact e83
 ·cases h;exact e84
 ·cases h;exact e85
 ·cases h;exact e86
 ·cases h;exact e87
 ·cases h;exact e88
 ·cases h;exact e89
 ·cases h;exact e90
 ·cases h;exact e91
 ·cases h;exact e92
 ·cases h;exact e93
 ·cases h;exact e94
 ·cases h;exact e95
 ·cases h;exact e96
 ·cases h;exact e97
 ·cases h;exact aoc
 ·cases h;exact aod
 ·cases h;exact aoe
 ·cases h;exact aof
 ·cases h;exact aog
 ·cases h;exact aoh
 ·cases h;exact aoi
 ·cases h;exact aoj
 ·cases h;exact aok
 ·cases h;exact aol
 ·cases h;exact aom
 ·cases h;exact aon
 ·cases h;exact aoo
 ·cases h;exact aop
 ·cases h;exact aoq
 ·cases h;exact aor
 ·cases h;exact aos
 ·cases h;exact aot
 ·cases h;exact aou
 ·cases h;exact aov
 ·cases h;exact aow
 ·cases h;exact aox
 ·cases h;exact aoy
 ·cases h;exact aoz
 ·cases h;exact aoA
 ·cases h;exact aoB
 ·cases h;exact aoC
 ·cases h;exact aoD
 ·cases h;exact aoE
 ·cases h;exact aoF
 ·cases h;exact aoG
 ·cases h;exact aoH
 ·cases h;exact aoI
 ·cases h;exact aoJ
 ·cases h;exact aoK
 ·cases h;exact aoL
 ·cases h;exact aoM
 ·cases h;exact aoN
 ·cases h;exact aoO
 ·cases h;exact aoP
 ·cases h;exact aoQ
 ·cases h;exact aoR
 ·cases h;exact aoS
 ·cases h;exact aoT
 ·cases h
end Go.Vi.Zz
end
