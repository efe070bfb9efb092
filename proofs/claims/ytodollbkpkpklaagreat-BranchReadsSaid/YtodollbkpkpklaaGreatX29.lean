/-
  A claim's own text, joined by a small program out of: RunZ.
-/
import Derived.Test.YtodollbkpkpklaaGreatX3
import Derived.Test.YtodollbkpkpklaaGreatX28
import Derived.KernelRfl
set_option linter.unusedVariables false
set_option linter.unusedSimpArgs false
section
set_option maxRecDepth 1000000
namespace Go.Vi.Zz.Run
open Go Go.Vi Go.Vi.Zz
def bl(l:List Nat):List T:=l.map fun(n:Nat)=>T.v (.int .u8 (Int.ofNat n))
def i(n:Int):T:= .v (.int .i64 n)
def y(n:Int):T:= .v (.int .u8 n)
def o(n x:Nat):List Nat:=List.replicate n x
def z0:T:= .sl .any 0 []
def e0:T:= .v (.string ⟨#[]⟩)
def YP:List T:=[]
def YQ:T:=(T.agg [(i 1),(i 5),(i 6),(i 5),(T.sl (.own 0 84) 5 [(i 1),(i 0),(i 2),(i 0),z0,z0,(i 0),(i 0),e0,(i 0),(i 0),(i 0),(i 0),(i 1),(i 0),(i 2),(i 0),z0,z0,(i 0),(i 0),e0,(i 0),(i 0),(i 0),(i 0),(i 1),(i 0),(i 2),(i 0),z0,z0,(i 0),(i 0),e0,(i 0),(i 0),(i 0),(i 0),(i 0),(i 0),(i 0),(i 0),z0,z0,(i 0),(i 0),e0,(i 0),(i 0),(i 0),(i 0),(i 0),(i 0),(i 0),(i 0),z0,z0,(i 0),(i 0),e0,(i 0),(i 0),(i 0),(i 0)]),(T.sl (.own 1 41) 1 [(T.sl .any 5 [(i 1),(i 0),(i 2),(i 0),z0,(T.sl .any 1 [(i 0),(i 2),(T.v (.string ⟨#[97]⟩))]),(i 0),(i 0),e0,(i 0),(i 0),(i 0),(i 0),(i 2),(i 0),(i 1),(i 3),(T.sl .any 1 [(y 120)]),z0,(i 0),(i 0),e0,(i 0),(i 0),(i 0),(i 0),(i 0),(i 0),(i 0),(i 0),z0,z0,(i 0),(i 0),e0,(i 0),(i 0),(i 0),(i 0),(i 0),(i 0),(i 0),(i 0),z0,z0,(i 0),(i 0),e0,(i 0),(i 0),(i 0),(i 0),(i 0),(i 0),(i 0),(i 0),z0,z0,(i 0),(i 0),e0,(i 0),(i 0),(i 0),(i 0)])])])
theorem agO:Ev E x8 YP YQ:=aT (fn:=yh) [] 200 trivial rfl (by decide) rfl rfl (by kernel_rfl)
def Bu:List T:=[(T.sl .any 60 (bl ([82,84,66,76,1,1,5,6,5]++o 51 0)))]
def Bv:T:=(T.an [(i 327),(i 19055)])
theorem FA:Ev E cR Bu Bv:=aT (fn:=jS) [] 200 trivial rfl (by decide) rfl rfl (by kernel_rfl)
def Bw:List T:=[(T.sl .any 60 (bl ([82,84,66,76,1,1,5,6,5]++o 51 0)))]
def Bx:T:=(i 1248788807)
theorem FB:Ev E dU Bw Bx:=aT (fn:=mq) [(cR,Bu,Bv)] 200 ⟨FA,trivial⟩ rfl (by decide) rfl rfl (by kernel_rfl)
def By:List T:=[(T.sl .any 9 (bl [82,84,66,76,1,1,5,6,5]))]
def Bz:T:=(T.sl (.own 0 5) 64 (bl ([82,84,66,76,1,1,5,6,5]++o 51 0++[71,1,111,74])))
theorem EO:Ev E bP By Bz:=aT (fn:=jR) [(dU,Bw,Bx)] 200 ⟨FB,trivial⟩ rfl (by decide) rfl rfl (by kernel_rfl)
def YS:List T:=[(T.agg [(i 1),(i 5),(i 6),(i 5)])]
def YT:T:=(T.sl (.own 0 5) 64 (bl ([82,84,66,76,1,1,5,6,5]++o 51 0++[71,1,111,74])))
theorem agP:Ev E sn YS YT:=aT (fn:=wW) [(bP,By,Bz)] 200 ⟨EO,trivial⟩ rfl (by decide) rfl rfl (by kernel_rfl)
def Kl:List T:=[(T.agg [(i 1),(i 0),(i 2),(i 0),z0,(T.sl .any 1 [(i 0),(i 2),(T.v (.string ⟨#[97]⟩))]),(i 0),(i 0),e0,(i 0),(i 0),(i 0),(i 0)]),(i 0)]
def Km:T:=(T.sl (.own 0 5) 64 (bl ([2,0,1,97]++o 60 0)))
theorem SX:Ev E kj Kl Km:=aT (fn:=sG) [] 200 trivial rfl (by decide) rfl rfl (by kernel_rfl)
def FC:List T:=[(T.sl .any 60 (bl ([1,0,2,0,0,0,0,0,0,0,1]++o 49 0)))]
def FD:T:=(T.an [(i 5),(i 286)])
theorem Kn:Ev E cR FC FD:=aT (fn:=jS) [] 200 trivial rfl (by decide) rfl rfl (by kernel_rfl)
def FE:List T:=[(T.sl .any 60 (bl ([1,0,2,0,0,0,0,0,0,0,1]++o 49 0)))]
def FG:T:=(i 18743301)
theorem Ko:Ev E dU FE FG:=aT (fn:=mq) [(cR,Bu,Bv),(cR,FC,FD)] 200 ⟨FA,Kn,trivial⟩ rfl (by decide) rfl rfl (by kernel_rfl)
def ER:List T:=[(T.sl .any 20 (bl ([1,0,2,0,0,0,0,0,0,0,1]++o 9 0)))]
def ES:T:=(T.sl (.own 0 5) 64 (bl ([1,0,2,0,0,0,0,0,0,0,1]++o 49 0++[5,0,30,1])))
theorem I7:Ev E bP ER ES:=aT (fn:=jR) [(dU,Bw,Bx),(dU,FE,FG)] 200 ⟨FB,Ko,trivial⟩ rfl (by decide) rfl rfl (by kernel_rfl)
def Pv:List T:=[(T.agg [(i 1),(i 0),(i 2),(i 0),(i 0),(i 1),(i 0),(i 0),(i 0),(i 0)])]
def Pw:T:=(T.sl (.own 0 5) 64 (bl ([1,0,2,0,0,0,0,0,0,0,1]++o 49 0++[5,0,30,1])))
theorem YU:Ev E cZ Pv Pw:=aT (fn:=gT) [(bP,By,Bz),(bP,ER,ES)] 200 ⟨EO,I7,trivial⟩ rfl (by decide) rfl rfl (by kernel_rfl)
def Kp:List T:=[(T.agg [(i 2),(i 0),(i 1),(i 3),(T.sl .any 1 [(y 120)]),z0,(i 0),(i 0),e0,(i 0),(i 0),(i 0),(i 0)]),(i 0)]
def Kq:T:=(T.sl (.own 0 5) 64 (bl ([120]++o 63 0)))
theorem SY:Ev E kj Kp Kq:=aT (fn:=sG) [] 200 trivial rfl (by decide) rfl rfl (by kernel_rfl)
def Kr:List T:=[(T.sl .any 60 (bl ([2,0,1,0,3,0,0,0,1,0,2]++o 49 0)))]
def Ks:T:=(T.an [(i 10),(i 558)])
theorem SZ:Ev E cR Kr Ks:=aT (fn:=jS) [] 200 trivial rfl (by decide) rfl rfl (by kernel_rfl)
def Kt:List T:=[(T.sl .any 60 (bl ([2,0,1,0,3,0,0,0,1,0,2]++o 49 0)))]
def Ku:T:=(i 36569098)
theorem S1:Ev E dU Kt Ku:=aT (fn:=mq) [(cR,Bu,Bv),(cR,FC,FD),(cR,Kr,Ks)] 200 ⟨FA,Kn,SZ,trivial⟩ rfl (by decide) rfl rfl (by kernel_rfl)
def I8:List T:=[(T.sl .any 20 (bl ([2,0,1,0,3,0,0,0,1,0,2]++o 9 0)))]
def I9:T:=(T.sl (.own 0 5) 64 (bl ([2,0,1,0,3,0,0,0,1,0,2]++o 49 0++[10,0,46,2])))
theorem Px:Ev E bP I8 I9:=aT (fn:=jR) [(dU,Bw,Bx),(dU,FE,FG),(dU,Kt,Ku)] 200 ⟨FB,Ko,S1,trivial⟩ rfl (by decide) rfl rfl (by kernel_rfl)
def Py:List T:=[(T.agg [(i 2),(i 0),(i 1),(i 3),(i 1),(i 2),(i 0),(i 0),(i 0),(i 0)])]
def Pz:T:=(T.sl (.own 0 5) 64 (bl ([2,0,1,0,3,0,0,0,1,0,2]++o 49 0++[10,0,46,2])))
theorem YV:Ev E cZ Py Pz:=aT (fn:=gT) [(bP,By,Bz),(bP,ER,ES),(bP,I8,I9)] 200 ⟨EO,I7,Px,trivial⟩ rfl (by decide) rfl rfl (by kernel_rfl)
def PA:List T:=[(T.agg [(i 0),(i 0),(i 0),(i 0),(i 0),(i 0),(i 0),(i 0),(i 0),(i 0)])]
def PB:T:=(T.sl (.own 0 5) 64 (bl (o 64 0)))
theorem YW:Ev E cZ PA PB:=aT (fn:=gT) [(bP,By,Bz),(bP,ER,ES),(bP,I8,I9)] 200 ⟨EO,I7,Px,trivial⟩ rfl (by decide) rfl rfl (by kernel_rfl)
def YX:List T:=[(T.agg [(i 1),(i 5),(i 6),(i 5)]),(T.agg [(T.sl .any 5 [(i 1),(i 0),(i 2),(i 0),z0,(T.sl .any 1 [(i 0),(i 2),(T.v (.string ⟨#[97]⟩))]),(i 0),(i 0),e0,(i 0),(i 0),(i 0),(i 0),(i 2),(i 0),(i 1),(i 3),(T.sl .any 1 [(y 120)]),z0,(i 0),(i 0),e0,(i 0),(i 0),(i 0),(i 0),(i 0),(i 0),(i 0),(i 0),z0,z0,(i 0),(i 0),e0,(i 0),(i 0),(i 0),(i 0),(i 0),(i 0),(i 0),(i 0),z0,z0,(i 0),(i 0),e0,(i 0),(i 0),(i 0),(i 0),(i 0),(i 0),(i 0),(i 0),z0,z0,(i 0),(i 0),e0,(i 0),(i 0),(i 0),(i 0)])])]
def YY:T:=(T.an [(T.sl (.own 0 5) 768 (bl ([3]++o 63 0++[1,0,2,0,0,0,0,0,0,0,1]++o 49 0++[5,0,30,1,2,0,1,0,3,0,0,0,1,0,2]++o 49 0++[10,0,46,2]++o 192 0++[2,0,1,97]++o 60 0++[120]++o 319 0))),(T.v (.bool true))])
theorem agQ:Ev E mh YX YY:=aT (fn:=pf) [(kj,Kl,Km),(cZ,Pv,Pw),(kj,Kp,Kq),(cZ,Py,Pz),(cZ,PA,PB)] 200 ⟨SX,YU,SY,YV,YW,trivial⟩ rfl (by decide) rfl rfl (by kernel_rfl)
def S4:List T:=[(T.sl .any 60 (bl ([1,0,2]++o 57 0)))]
def S6:T:=(T.an [(i 4),(i 236)])
theorem aeC:Ev E cR S4 S6:=aT (fn:=jS) [] 200 trivial rfl (by decide) rfl rfl (by kernel_rfl)
def S7:List T:=[(T.sl .any 60 (bl ([1,0,2]++o 57 0)))]
def S8:T:=(i 15466500)
theorem aeD:Ev E dU S7 S8:=aT (fn:=mq) [(cR,Bu,Bv),(cR,FC,FD),(cR,Kr,Ks),(cR,S4,S6)] 200 ⟨FA,Kn,SZ,aeC,trivial⟩ rfl (by decide) rfl rfl (by kernel_rfl)
def YZ:List T:=[(T.sl .any 20 (bl ([1,0,2]++o 17 0)))]
def Y0:T:=(T.sl (.own 0 5) 64 (bl ([1,0,2]++o 57 0++[4,0,236,0])))
theorem agR:Ev E bP YZ Y0:=aT (fn:=jR) [(dU,Bw,Bx),(dU,FE,FG),(dU,Kt,Ku),(dU,S7,S8)] 200 ⟨FB,Ko,S1,aeD,trivial⟩ rfl (by decide) rfl rfl (by kernel_rfl)
def Y1:List T:=[(T.agg [(i 1),(i 0),(i 2),(i 0),(i 0),(i 0),(i 0),(i 0),(i 0),(i 0)])]
def Y2:T:=(T.sl (.own 0 5) 64 (bl ([1,0,2]++o 57 0++[4,0,236,0])))
theorem agS:Ev E cZ Y1 Y2:=aT (fn:=gT) [(bP,By,Bz),(bP,ER,ES),(bP,I8,I9),(bP,YZ,Y0)] 200 ⟨EO,I7,Px,agR,trivial⟩ rfl (by decide) rfl rfl (by kernel_rfl)
def Y3:List T:=[(T.agg [(i 1),(i 5),(i 6),(i 5)]),(T.agg [(T.sl .any 5 [(i 1),(i 0),(i 2),(i 0),z0,z0,(i 0),(i 0),e0,(i 0),(i 0),(i 0),(i 0),(i 1),(i 0),(i 2),(i 0),z0,z0,(i 0),(i 0),e0,(i 0),(i 0),(i 0),(i 0),(i 1),(i 0),(i 2),(i 0),z0,z0,(i 0),(i 0),e0,(i 0),(i 0),(i 0),(i 0),(i 0),(i 0),(i 0),(i 0),z0,z0,(i 0),(i 0),e0,(i 0),(i 0),(i 0),(i 0),(i 0),(i 0),(i 0),(i 0),z0,z0,(i 0),(i 0),e0,(i 0),(i 0),(i 0),(i 0)])])]
def Y4:T:=(T.an [(T.sl (.own 0 5) 768 (bl (o 64 0++[1,0,2]++o 57 0++[4,0,236,0,1,0,2]++o 57 0++[4,0,236,0,1,0,2]++o 57 0++[4,0,236]++o 513 0))),(T.v (.bool true))])
theorem agT:Ev E mh Y3 Y4:=aT (fn:=pf) [(kj,Kl,Km),(cZ,Pv,Pw),(kj,Kp,Kq),(cZ,Py,Pz),(cZ,PA,PB),(cZ,Y1,Y2)] 200 ⟨SX,YU,SY,YV,YW,agS,trivial⟩ rfl (by decide) rfl rfl (by kernel_rfl)
def Y5:List T:=[(T.agg [(i 1),(i 5),(i 6),(i 5),(T.sl .any 5 [(i 1),(i 0),(i 2),(i 0),z0,z0,(i 0),(i 0),e0,(i 0),(i 0),(i 0),(i 0),(i 1),(i 0),(i 2),(i 0),z0,z0,(i 0),(i 0),e0,(i 0),(i 0),(i 0),(i 0),(i 1),(i 0),(i 2),(i 0),z0,z0,(i 0),(i 0),e0,(i 0),(i 0),(i 0),(i 0),(i 0),(i 0),(i 0),(i 0),z0,z0,(i 0),(i 0),e0,(i 0),(i 0),(i 0),(i 0),(i 0),(i 0),(i 0),(i 0),z0,z0,(i 0),(i 0),e0,(i 0),(i 0),(i 0),(i 0)]),(T.sl .any 1 [(T.sl .any 5 [(i 1),(i 0),(i 2),(i 0),z0,(T.sl .any 1 [(i 0),(i 2),(T.v (.string ⟨#[97]⟩))]),(i 0),(i 0),e0,(i 0),(i 0),(i 0),(i 0),(i 2),(i 0),(i 1),(i 3),(T.sl .any 1 [(y 120)]),z0,(i 0),(i 0),e0,(i 0),(i 0),(i 0),(i 0),(i 0),(i 0),(i 0),(i 0),z0,z0,(i 0),(i 0),e0,(i 0),(i 0),(i 0),(i 0),(i 0),(i 0),(i 0),(i 0),z0,z0,(i 0),(i 0),e0,(i 0),(i 0),(i 0),(i 0),(i 0),(i 0),(i 0),(i 0),z0,z0,(i 0),(i 0),e0,(i 0),(i 0),(i 0),(i 0)])])])]
def Y6:T:=(T.an [(T.sl (.own 0 5) 1920 (bl ([82,84,66,76,1,1,5,6,5]++o 51 0++[71,1,111,74,3]++o 63 0++[1,0,2,0,0,0,0,0,0,0,1]++o 49 0++[5,0,30,1,2,0,1,0,3,0,0,0,1,0,2]++o 49 0++[10,0,46,2]++o 192 0++[2,0,1,97]++o 60 0++[120]++o 383 0++[1,0,2]++o 57 0++[4,0,236,0,1,0,2]++o 57 0++[4,0,236,0,1,0,2]++o 57 0++[4,0,236]++o 513 0++[74,82,78,76]++o 56 0++[55,1,18,71]++o 256 0))),(i 0)])
theorem agU:Ev E wJ Y5 Y6:=aT (fn:=wX) [(sn,YS,YT),(mh,YX,YY),(mh,Y3,Y4)] 200 ⟨agP,agQ,agT,trivial⟩ rfl (by decide) rfl rfl (by kernel_rfl)
def Y7:List T:=[(T.agg [(i 1),(i 5),(i 6),(i 5),(T.sl .any 5 [(i 1),(i 0),(i 2),(i 0),z0,z0,(i 0),(i 0),e0,(i 0),(i 0),(i 0),(i 0),(i 1),(i 0),(i 2),(i 0),z0,z0,(i 0),(i 0),e0,(i 0),(i 0),(i 0),(i 0),(i 1),(i 0),(i 2),(i 0),z0,z0,(i 0),(i 0),e0,(i 0),(i 0),(i 0),(i 0),(i 0),(i 0),(i 0),(i 0),z0,z0,(i 0),(i 0),e0,(i 0),(i 0),(i 0),(i 0),(i 0),(i 0),(i 0),(i 0),z0,z0,(i 0),(i 0),e0,(i 0),(i 0),(i 0),(i 0)]),(T.sl .any 1 [(T.sl .any 5 [(i 1),(i 0),(i 2),(i 0),z0,(T.sl .any 1 [(i 0),(i 2),(T.v (.string ⟨#[97]⟩))]),(i 0),(i 0),e0,(i 0),(i 0),(i 0),(i 0),(i 2),(i 0),(i 1),(i 3),(T.sl .any 1 [(y 120)]),z0,(i 0),(i 0),e0,(i 0),(i 0),(i 0),(i 0),(i 0),(i 0),(i 0),(i 0),z0,z0,(i 0),(i 0),e0,(i 0),(i 0),(i 0),(i 0),(i 0),(i 0),(i 0),(i 0),z0,z0,(i 0),(i 0),e0,(i 0),(i 0),(i 0),(i 0),(i 0),(i 0),(i 0),(i 0),z0,z0,(i 0),(i 0),e0,(i 0),(i 0),(i 0),(i 0)])])])]
def Y8:T:=(T.sl (.own 0 5) 1920 (bl ([82,84,66,76,1,1,5,6,5]++o 51 0++[71,1,111,74,3]++o 63 0++[1,0,2,0,0,0,0,0,0,0,1]++o 49 0++[5,0,30,1,2,0,1,0,3,0,0,0,1,0,2]++o 49 0++[10,0,46,2]++o 192 0++[2,0,1,97]++o 60 0++[120]++o 383 0++[1,0,2]++o 57 0++[4,0,236,0,1,0,2]++o 57 0++[4,0,236,0,1,0,2]++o 57 0++[4,0,236]++o 513 0++[74,82,78,76]++o 56 0++[55,1,18,71]++o 256 0)))
theorem agV:Ev E wG Y7 Y8:=aT (fn:=wV) [(wJ,Y5,Y6)] 200 ⟨agU,trivial⟩ rfl (by decide) rfl rfl (by kernel_rfl)
def Y9:List T:=[(T.agg [(i 1),(i 5),(i 6),(i 5)]),(T.sl .any 1920 (bl ([82,84,66,76,1,1,5,6,5]++o 51 0++[71,1,111,74,3]++o 63 0++[1,0,2,0,0,0,0,0,0,0,1]++o 49 0++[5,0,30,1,2,0,1,0,3,0,0,0,1,0,2]++o 49 0++[10,0,46,2]++o 192 0++[2,0,1,97]++o 60 0++[120]++o 383 0++[1,0,2]++o 57 0++[4,0,236,0,1,0,2]++o 57 0++[4,0,236,0,1,0,2]++o 57 0++[4,0,236]++o 513 0++[74,82,78,76]++o 56 0++[55,1,18,71]++o 256 0))),(i 1)]
def Za:T:=(T.sl (.own 0 37) 12 [(T.sl .any 64 (bl ([3]++o 63 0))),(T.sl .any 64 (bl ([1,0,2,0,0,0,0,0,0,0,1]++o 49 0++[5,0,30,1]))),(T.sl .any 64 (bl ([2,0,1,0,3,0,0,0,1,0,2]++o 49 0++[10,0,46,2]))),(T.sl .any 64 (bl (o 64 0))),(T.sl .any 64 (bl (o 64 0))),(T.sl .any 64 (bl (o 64 0))),(T.sl .any 64 (bl ([2,0,1,97]++o 60 0))),(T.sl .any 64 (bl ([120]++o 63 0))),(T.sl .any 64 (bl (o 64 0))),(T.sl .any 64 (bl (o 64 0))),(T.sl .any 64 (bl (o 64 0))),(T.sl .any 64 (bl (o 64 0)))])
theorem agW:Ev E pv Y9 Za:=aT (fn:=yg) [] 200 trivial rfl (by decide) rfl rfl (by kernel_rfl)
def Ja:List T:=[(T.sl .any 64 (bl ([1,0,2,0,0,0,0,0,0,0,1]++o 49 0++[5,0,30,1])))]
def Jb:T:=(T.agg [(i 1),(i 0),(i 2),(i 0),(i 0),(i 1),(i 0),(i 0),(i 0),(i 0)])
theorem PC:Ev E ff Ja Jb:=aT (fn:=ln) [] 200 trivial rfl (by decide) rfl rfl (by kernel_rfl)
def Kv:List T:=[(T.sl .any 60 (bl ([1,0,2,0,0,0,0,0,0,0,1]++o 49 0)))]
def Kw:T:=(i 18743301)
theorem S9:Ev E pA Kv Kw:=aT (fn:=vb) [] 200 trivial rfl (by decide) rfl rfl (by kernel_rfl)
def Jc:List T:=[(T.sl .any 20 (bl ([1,0,2,0,0,0,0,0,0,0,1]++o 9 0)))]
def Jd:T:=(T.sl (.own 0 5) 64 (bl ([1,0,2,0,0,0,0,0,0,0,1]++o 49 0++[5,0,30,1])))
theorem PD:Ev E iV Jc Jd:=aT (fn:=qG) [(pA,Kv,Kw)] 200 ⟨S9,trivial⟩ rfl (by decide) rfl rfl (by kernel_rfl)
def Je:List T:=[(T.agg [(i 1),(i 0),(i 2),(i 0),(i 0),(i 1),(i 0),(i 0),(i 0),(i 0)])]
def Jf:T:=(T.an [(T.sl (.own 0 5) 64 (bl ([1,0,2,0,0,0,0,0,0,0,1]++o 49 0++[5,0,30,1]))),(i 0)])
theorem PE:Ev E fU Je Jf:=aT (fn:=jD) [(iV,Jc,Jd)] 200 ⟨PD,trivial⟩ rfl (by decide) rfl rfl (by kernel_rfl)
def Zb:List T:=[(T.sl .any 64 (bl ([1,0,2,0,0,0,0,0,0,0,1]++o 49 0++[5,0,30,1])))]
def Zc:T:=(T.an [(T.agg [(i 1),(i 0),(i 2),(i 0),(i 0),(i 1),(i 0),(i 0),(i 0),(i 0)]),(T.v (.bool true))])
theorem agX:Ev E jA Zb Zc:=aT (fn:=jC) [(ff,Ja,Jb),(fU,Je,Jf)] 200 ⟨PC,PE,trivial⟩ rfl (by decide) rfl rfl (by kernel_rfl)
def PF:List T:=[(T.sl .any 64 (bl ([2,0,1,0,3,0,0,0,1,0,2]++o 49 0++[10,0,46,2])))]
def PG:T:=(T.agg [(i 2),(i 0),(i 1),(i 3),(i 1),(i 2),(i 0),(i 0),(i 0),(i 0)])
theorem Zd:Ev E ff PF PG:=aT (fn:=ln) [] 200 trivial rfl (by decide) rfl rfl (by kernel_rfl)
def Ta:List T:=[(T.sl .any 60 (bl ([2,0,1,0,3,0,0,0,1,0,2]++o 49 0)))]
def Tb:T:=(i 36569098)
theorem aeE:Ev E pA Ta Tb:=aT (fn:=vb) [] 200 trivial rfl (by decide) rfl rfl (by kernel_rfl)
def PH:List T:=[(T.sl .any 20 (bl ([2,0,1,0,3,0,0,0,1,0,2]++o 9 0)))]
def PI:T:=(T.sl (.own 0 5) 64 (bl ([2,0,1,0,3,0,0,0,1,0,2]++o 49 0++[10,0,46,2])))
theorem Ze:Ev E iV PH PI:=aT (fn:=qG) [(pA,Kv,Kw),(pA,Ta,Tb)] 200 ⟨S9,aeE,trivial⟩ rfl (by decide) rfl rfl (by kernel_rfl)
def PK:List T:=[(T.agg [(i 2),(i 0),(i 1),(i 3),(i 1),(i 2),(i 0),(i 0),(i 0),(i 0)])]
def PL:T:=(T.an [(T.sl (.own 0 5) 64 (bl ([2,0,1,0,3,0,0,0,1,0,2]++o 49 0++[10,0,46,2]))),(i 0)])
theorem Zf:Ev E fU PK PL:=aT (fn:=jD) [(iV,Jc,Jd),(iV,PH,PI)] 200 ⟨PD,Ze,trivial⟩ rfl (by decide) rfl rfl (by kernel_rfl)
def Zg:List T:=[(T.sl .any 64 (bl ([2,0,1,0,3,0,0,0,1,0,2]++o 49 0++[10,0,46,2])))]
def Zh:T:=(T.an [(T.agg [(i 2),(i 0),(i 1),(i 3),(i 1),(i 2),(i 0),(i 0),(i 0),(i 0)]),(T.v (.bool true))])
theorem agY:Ev E jA Zg Zh:=aT (fn:=jC) [(ff,Ja,Jb),(fU,Je,Jf),(ff,PF,PG),(fU,PK,PL)] 200 ⟨PC,PE,Zd,Zf,trivial⟩ rfl (by decide) rfl rfl (by kernel_rfl)
def Zi:List T:=[(T.sl .any 64 (bl (o 64 0)))]
def Zj:T:=(T.agg [(i 0),(i 0),(i 0),(i 0),(i 0),(i 0),(i 0),(i 0),(i 0),(i 0)])
theorem agZ:Ev E ff Zi Zj:=aT (fn:=ln) [] 200 trivial rfl (by decide) rfl rfl (by kernel_rfl)
def Zk:List T:=[(T.agg [(i 0),(i 0),(i 0),(i 0),(i 0),(i 0),(i 0),(i 0),(i 0),(i 0)])]
def Zl:T:=(T.an [(T.sl (.own 0 5) 64 (bl (o 64 0))),(i 0)])
theorem ag0:Ev E fU Zk Zl:=aT (fn:=jD) [(iV,Jc,Jd),(iV,PH,PI)] 200 ⟨PD,Ze,trivial⟩ rfl (by decide) rfl rfl (by kernel_rfl)
def Zm:List T:=[(T.sl .any 64 (bl (o 64 0)))]
def Zn:T:=(T.an [(T.agg [(i 0),(i 0),(i 0),(i 0),(i 0),(i 0),(i 0),(i 0),(i 0),(i 0)]),(T.v (.bool true))])
theorem ag1:Ev E jA Zm Zn:=aT (fn:=jC) [(ff,Ja,Jb),(fU,Je,Jf),(ff,PF,PG),(fU,PK,PL),(ff,Zi,Zj),(fU,Zk,Zl)] 200 ⟨PC,PE,Zd,Zf,agZ,ag0,trivial⟩ rfl (by decide) rfl rfl (by kernel_rfl)
def Vb:List T:=[(T.agg [(i 1),(i 5),(i 6),(i 5)]),(T.sl .any 12 [(T.sl .any 64 (bl ([3]++o 63 0))),(T.sl .any 64 (bl ([1,0,2,0,0,0,0,0,0,0,1]++o 49 0++[5,0,30,1]))),(T.sl .any 64 (bl ([2,0,1,0,3,0,0,0,1,0,2]++o 49 0++[10,0,46,2]))),(T.sl .any 64 (bl (o 64 0))),(T.sl .any 64 (bl (o 64 0))),(T.sl .any 64 (bl (o 64 0))),(T.sl .any 64 (bl ([2,0,1,97]++o 60 0))),(T.sl .any 64 (bl ([120]++o 63 0))),(T.sl .any 64 (bl (o 64 0))),(T.sl .any 64 (bl (o 64 0))),(T.sl .any 64 (bl (o 64 0))),(T.sl .any 64 (bl (o 64 0)))])]
def Vc:T:=(T.an [(T.sl (.own 0 34) 5 [(i 1),(i 0),(i 2),(i 0),(i 0),(i 1),(i 0),(i 0),(i 0),(i 0),(i 2),(i 0),(i 1),(i 3),(i 1),(i 2),(i 0),(i 0),(i 0),(i 0),(i 0),(i 0),(i 0),(i 0),(i 0),(i 0),(i 0),(i 0),(i 0),(i 0),(i 0),(i 0),(i 0),(i 0),(i 0),(i 0),(i 0),(i 0),(i 0),(i 0),(i 0),(i 0),(i 0),(i 0),(i 0),(i 0),(i 0),(i 0),(i 0),(i 0)]),(T.sl .nil 0 [])])
theorem adg:Ev E gz Vb Vc:=aT (fn:=j6) [(jA,Zb,Zc),(jA,Zg,Zh),(jA,Zm,Zn)] 200 ⟨agX,agY,ag1,trivial⟩ rfl (by decide) rfl rfl (by kernel_rfl)
def Zo:List T:=[(T.sl .any 5 [(i 1),(i 0),(i 2),(i 0),(i 0),(i 1),(i 0),(i 0),(i 0),(i 0),(i 2),(i 0),(i 1),(i 3),(i 1),(i 2),(i 0),(i 0),(i 0),(i 0),(i 0),(i 0),(i 0),(i 0),(i 0),(i 0),(i 0),(i 0),(i 0),(i 0),(i 0),(i 0),(i 0),(i 0),(i 0),(i 0),(i 0),(i 0),(i 0),(i 0),(i 0),(i 0),(i 0),(i 0),(i 0),(i 0),(i 0),(i 0),(i 0),(i 0)]),(i 6)]
def Zp:T:=(T.sl .nil 0 [])
theorem ag2:Ev E rA Zo Zp:=aT (fn:=rI) [] 200 trivial rfl (by decide) rfl rfl (by kernel_rfl)
def PM:List T:=[(T.agg [(i 1),(i 5),(i 6),(i 5),(T.sl .any 12 [(T.sl .any 64 (bl ([3]++o 63 0))),(T.sl .any 64 (bl ([1,0,2,0,0,0,0,0,0,0,1]++o 49 0++[5,0,30,1]))),(T.sl .any 64 (bl ([2,0,1,0,3,0,0,0,1,0,2]++o 49 0++[10,0,46,2]))),(T.sl .any 64 (bl (o 64 0))),(T.sl .any 64 (bl (o 64 0))),(T.sl .any 64 (bl (o 64 0))),(T.sl .any 64 (bl ([2,0,1,97]++o 60 0))),(T.sl .any 64 (bl ([120]++o 63 0))),(T.sl .any 64 (bl (o 64 0))),(T.sl .any 64 (bl (o 64 0))),(T.sl .any 64 (bl (o 64 0))),(T.sl .any 64 (bl (o 64 0)))]),(T.sl .any 5 [(i 1),(i 0),(i 2),(i 0),(i 0),(i 1),(i 0),(i 0),(i 0),(i 0),(i 2),(i 0),(i 1),(i 3),(i 1),(i 2),(i 0),(i 0),(i 0),(i 0),(i 0),(i 0),(i 0),(i 0),(i 0),(i 0),(i 0),(i 0),(i 0),(i 0),(i 0),(i 0),(i 0),(i 0),(i 0),(i 0),(i 0),(i 0),(i 0),(i 0),(i 0),(i 0),(i 0),(i 0),(i 0),(i 0),(i 0),(i 0),(i 0),(i 0)])]),(i 1)]
def PN:T:=(T.sl .nil 0 [])
theorem Zq:Ev E aP PM PN:=aT (fn:=bU) [] 200 trivial rfl (by decide) rfl rfl (by kernel_rfl)
def pZ:List T:=[(T.agg [(i 1),(i 5),(i 6),(i 5),(T.sl .any 12 [(T.sl .any 64 (bl ([3]++o 63 0))),(T.sl .any 64 (bl ([1,0,2,0,0,0,0,0,0,0,1]++o 49 0++[5,0,30,1]))),(T.sl .any 64 (bl ([2,0,1,0,3,0,0,0,1,0,2]++o 49 0++[10,0,46,2]))),(T.sl .any 64 (bl (o 64 0))),(T.sl .any 64 (bl (o 64 0))),(T.sl .any 64 (bl (o 64 0))),(T.sl .any 64 (bl ([2,0,1,97]++o 60 0))),(T.sl .any 64 (bl ([120]++o 63 0))),(T.sl .any 64 (bl (o 64 0))),(T.sl .any 64 (bl (o 64 0))),(T.sl .any 64 (bl (o 64 0))),(T.sl .any 64 (bl (o 64 0)))]),(T.sl .any 5 [(i 1),(i 0),(i 2),(i 0),(i 0),(i 1),(i 0),(i 0),(i 0),(i 0),(i 2),(i 0),(i 1),(i 3),(i 1),(i 2),(i 0),(i 0),(i 0),(i 0),(i 0),(i 0),(i 0),(i 0),(i 0),(i 0),(i 0),(i 0),(i 0),(i 0),(i 0),(i 0),(i 0),(i 0),(i 0),(i 0),(i 0),(i 0),(i 0),(i 0),(i 0),(i 0),(i 0),(i 0),(i 0),(i 0),(i 0),(i 0),(i 0),(i 0)])]),(i 1),(i 4)]
def p7:T:=(T.an [(T.sl .nil 0 []),(T.v (.bool false))])
theorem rY:Ev E ab pZ p7:=aT (fn:=aM) [] 200 trivial rfl (by decide) rfl rfl (by kernel_rfl)
def Zr:List T:=[(T.agg [(i 1),(i 5),(i 6),(i 5),(T.sl .any 12 [(T.sl .any 64 (bl ([3]++o 63 0))),(T.sl .any 64 (bl ([1,0,2,0,0,0,0,0,0,0,1]++o 49 0++[5,0,30,1]))),(T.sl .any 64 (bl ([2,0,1,0,3,0,0,0,1,0,2]++o 49 0++[10,0,46,2]))),(T.sl .any 64 (bl (o 64 0))),(T.sl .any 64 (bl (o 64 0))),(T.sl .any 64 (bl (o 64 0))),(T.sl .any 64 (bl ([2,0,1,97]++o 60 0))),(T.sl .any 64 (bl ([120]++o 63 0))),(T.sl .any 64 (bl (o 64 0))),(T.sl .any 64 (bl (o 64 0))),(T.sl .any 64 (bl (o 64 0))),(T.sl .any 64 (bl (o 64 0)))]),(T.sl .any 5 [(i 1),(i 0),(i 2),(i 0),(i 0),(i 1),(i 0),(i 0),(i 0),(i 0),(i 2),(i 0),(i 1),(i 3),(i 1),(i 2),(i 0),(i 0),(i 0),(i 0),(i 0),(i 0),(i 0),(i 0),(i 0),(i 0),(i 0),(i 0),(i 0),(i 0),(i 0),(i 0),(i 0),(i 0),(i 0),(i 0),(i 0),(i 0),(i 0),(i 0),(i 0),(i 0),(i 0),(i 0),(i 0),(i 0),(i 0),(i 0),(i 0),(i 0)])]),(i 1)]
def Zs:T:=(T.an [(T.agg [(i 0),(i 0),e0,(i 0),(i 0),(i 0),(i 0)]),(T.v (.bool true))])
theorem ag3:Ev E bM Zr Zs:=aT (fn:=cw) [(ab,pZ,p7)] 200 ⟨rY,trivial⟩ rfl (by decide) rfl rfl (by kernel_rfl)
def rZ:List T:=[(T.agg [(i 1),(i 5),(i 6),(i 5),(T.sl .any 12 [(T.sl .any 64 (bl ([3]++o 63 0))),(T.sl .any 64 (bl ([1,0,2,0,0,0,0,0,0,0,1]++o 49 0++[5,0,30,1]))),(T.sl .any 64 (bl ([2,0,1,0,3,0,0,0,1,0,2]++o 49 0++[10,0,46,2]))),(T.sl .any 64 (bl (o 64 0))),(T.sl .any 64 (bl (o 64 0))),(T.sl .any 64 (bl (o 64 0))),(T.sl .any 64 (bl ([2,0,1,97]++o 60 0))),(T.sl .any 64 (bl ([120]++o 63 0))),(T.sl .any 64 (bl (o 64 0))),(T.sl .any 64 (bl (o 64 0))),(T.sl .any 64 (bl (o 64 0))),(T.sl .any 64 (bl (o 64 0)))]),(T.sl .any 5 [(i 1),(i 0),(i 2),(i 0),(i 0),(i 1),(i 0),(i 0),(i 0),(i 0),(i 2),(i 0),(i 1),(i 3),(i 1),(i 2),(i 0),(i 0),(i 0),(i 0),(i 0),(i 0),(i 0),(i 0),(i 0),(i 0),(i 0),(i 0),(i 0),(i 0),(i 0),(i 0),(i 0),(i 0),(i 0),(i 0),(i 0),(i 0),(i 0),(i 0),(i 0),(i 0),(i 0),(i 0),(i 0),(i 0),(i 0),(i 0),(i 0),(i 0)])]),(i 1),(i 0)]
def r9:T:=(T.an [(T.sl .any 64 (bl ([2,0,1,97]++o 60 0))),(T.v (.bool true))])
theorem uC:Ev E ab rZ r9:=aT (fn:=aM) [] 200 trivial rfl (by decide) rfl rfl (by kernel_rfl)
def BA:List T:=[(T.agg [(i 0),(i 2),(T.v (.string ⟨#[97]⟩))])]
def BB:T:=(T.an [(T.sl (.own 0 5) 16 (bl ([2,0,1,97]++o 12 0))),(i 0)])
theorem FH:Ev E kW BA BB:=aT (fn:=oT) [] 200 trivial rfl (by decide) rfl rfl (by kernel_rfl)
def Zt:List T:=[(T.sl .any 16 (bl ([2,0,1,97]++o 12 0))),(i 0)]
def Zu:T:=(T.an [(T.agg [(i 0),(i 2),(T.v (.string ⟨#[97]⟩))]),(T.v (.bool true)),(T.v (.bool true))])
theorem ag4:Ev E gI Zt Zu:=aT (fn:=jE) [(kW,BA,BB)] 200 ⟨FH,trivial⟩ rfl (by decide) rfl rfl (by kernel_rfl)
def Zv:List T:=[(T.sl .any 16 (bl (o 16 0))),(i 1)]
def Zw:T:=(T.an [(T.agg [(i 0),(i 0),e0]),(T.v (.bool false)),(T.v (.bool true))])
theorem ag5:Ev E gI Zv Zw:=aT (fn:=jE) [(kW,BA,BB)] 200 ⟨FH,trivial⟩ rfl (by decide) rfl rfl (by kernel_rfl)
def Zx:List T:=[(T.sl .any 16 (bl (o 16 0))),(i 2)]
def Zy:T:=(T.an [(T.agg [(i 0),(i 0),e0]),(T.v (.bool false)),(T.v (.bool true))])
theorem ag6:Ev E gI Zx Zy:=aT (fn:=jE) [(kW,BA,BB)] 200 ⟨FH,trivial⟩ rfl (by decide) rfl rfl (by kernel_rfl)
def ZA:List T:=[(T.sl .any 16 (bl (o 16 0))),(i 3)]
def ZB:T:=(T.an [(T.agg [(i 0),(i 0),e0]),(T.v (.bool false)),(T.v (.bool true))])
theorem ag7:Ev E gI ZA ZB:=aT (fn:=jE) [(kW,BA,BB)] 200 ⟨FH,trivial⟩ rfl (by decide) rfl rfl (by kernel_rfl)
def ZC:List T:=[(T.sl .any 64 (bl ([2,0,1,97]++o 60 0))),(i 0)]
def ZD:T:=(T.an [(T.sl (.own 0 105) 1 [(i 0),(i 2),(T.v (.string ⟨#[97]⟩))]),(T.sl .nil 0 [])])
theorem ag8:Ev E oy ZC ZD:=aT (fn:=oD) [(gI,Zt,Zu),(gI,Zv,Zw),(gI,Zx,Zy),(gI,ZA,ZB)] 200 ⟨ag4,ag5,ag6,ag7,trivial⟩ rfl (by decide) rfl rfl (by kernel_rfl)
def sa:List T:=[(T.agg [(i 1),(i 5),(i 6),(i 5),(T.sl .any 12 [(T.sl .any 64 (bl ([3]++o 63 0))),(T.sl .any 64 (bl ([1,0,2,0,0,0,0,0,0,0,1]++o 49 0++[5,0,30,1]))),(T.sl .any 64 (bl ([2,0,1,0,3,0,0,0,1,0,2]++o 49 0++[10,0,46,2]))),(T.sl .any 64 (bl (o 64 0))),(T.sl .any 64 (bl (o 64 0))),(T.sl .any 64 (bl (o 64 0))),(T.sl .any 64 (bl ([2,0,1,97]++o 60 0))),(T.sl .any 64 (bl ([120]++o 63 0))),(T.sl .any 64 (bl (o 64 0))),(T.sl .any 64 (bl (o 64 0))),(T.sl .any 64 (bl (o 64 0))),(T.sl .any 64 (bl (o 64 0)))]),(T.sl .any 5 [(i 1),(i 0),(i 2),(i 0),(i 0),(i 1),(i 0),(i 0),(i 0),(i 0),(i 2),(i 0),(i 1),(i 3),(i 1),(i 2),(i 0),(i 0),(i 0),(i 0),(i 0),(i 0),(i 0),(i 0),(i 0),(i 0),(i 0),(i 0),(i 0),(i 0),(i 0),(i 0),(i 0),(i 0),(i 0),(i 0),(i 0),(i 0),(i 0),(i 0),(i 0),(i 0),(i 0),(i 0),(i 0),(i 0),(i 0),(i 0),(i 0),(i 0)])]),(i 1),(i 1)]
def sc:T:=(T.an [(T.sl .nil 0 []),(T.v (.bool false))])
theorem uD:Ev E ab sa sc:=aT (fn:=aM) [] 200 trivial rfl (by decide) rfl rfl (by kernel_rfl)
def se:List T:=[(T.agg [(i 1),(i 5),(i 6),(i 5),(T.sl .any 12 [(T.sl .any 64 (bl ([3]++o 63 0))),(T.sl .any 64 (bl ([1,0,2,0,0,0,0,0,0,0,1]++o 49 0++[5,0,30,1]))),(T.sl .any 64 (bl ([2,0,1,0,3,0,0,0,1,0,2]++o 49 0++[10,0,46,2]))),(T.sl .any 64 (bl (o 64 0))),(T.sl .any 64 (bl (o 64 0))),(T.sl .any 64 (bl (o 64 0))),(T.sl .any 64 (bl ([2,0,1,97]++o 60 0))),(T.sl .any 64 (bl ([120]++o 63 0))),(T.sl .any 64 (bl (o 64 0))),(T.sl .any 64 (bl (o 64 0))),(T.sl .any 64 (bl (o 64 0))),(T.sl .any 64 (bl (o 64 0)))]),(T.sl .any 5 [(i 1),(i 0),(i 2),(i 0),(i 0),(i 1),(i 0),(i 0),(i 0),(i 0),(i 2),(i 0),(i 1),(i 3),(i 1),(i 2),(i 0),(i 0),(i 0),(i 0),(i 0),(i 0),(i 0),(i 0),(i 0),(i 0),(i 0),(i 0),(i 0),(i 0),(i 0),(i 0),(i 0),(i 0),(i 0),(i 0),(i 0),(i 0),(i 0),(i 0),(i 0),(i 0),(i 0),(i 0),(i 0),(i 0),(i 0),(i 0),(i 0),(i 0)])]),(i 1),(i 2)]
def sf:T:=(T.an [(T.sl .nil 0 []),(T.v (.bool false))])
theorem uE:Ev E ab se sf:=aT (fn:=aM) [] 200 trivial rfl (by decide) rfl rfl (by kernel_rfl)
def sg:List T:=[(T.agg [(i 1),(i 5),(i 6),(i 5),(T.sl .any 12 [(T.sl .any 64 (bl ([3]++o 63 0))),(T.sl .any 64 (bl ([1,0,2,0,0,0,0,0,0,0,1]++o 49 0++[5,0,30,1]))),(T.sl .any 64 (bl ([2,0,1,0,3,0,0,0,1,0,2]++o 49 0++[10,0,46,2]))),(T.sl .any 64 (bl (o 64 0))),(T.sl .any 64 (bl (o 64 0))),(T.sl .any 64 (bl (o 64 0))),(T.sl .any 64 (bl ([2,0,1,97]++o 60 0))),(T.sl .any 64 (bl ([120]++o 63 0))),(T.sl .any 64 (bl (o 64 0))),(T.sl .any 64 (bl (o 64 0))),(T.sl .any 64 (bl (o 64 0))),(T.sl .any 64 (bl (o 64 0)))]),(T.sl .any 5 [(i 1),(i 0),(i 2),(i 0),(i 0),(i 1),(i 0),(i 0),(i 0),(i 0),(i 2),(i 0),(i 1),(i 3),(i 1),(i 2),(i 0),(i 0),(i 0),(i 0),(i 0),(i 0),(i 0),(i 0),(i 0),(i 0),(i 0),(i 0),(i 0),(i 0),(i 0),(i 0),(i 0),(i 0),(i 0),(i 0),(i 0),(i 0),(i 0),(i 0),(i 0),(i 0),(i 0),(i 0),(i 0),(i 0),(i 0),(i 0),(i 0),(i 0)])]),(i 1),(i 3)]
def sh:T:=(T.an [(T.sl .nil 0 []),(T.v (.bool false))])
theorem uF:Ev E ab sg sh:=aT (fn:=aM) [] 200 trivial rfl (by decide) rfl rfl (by kernel_rfl)
def ZE:List T:=[(T.agg [(i 1),(i 5),(i 6),(i 5),(T.sl .any 12 [(T.sl .any 64 (bl ([3]++o 63 0))),(T.sl .any 64 (bl ([1,0,2,0,0,0,0,0,0,0,1]++o 49 0++[5,0,30,1]))),(T.sl .any 64 (bl ([2,0,1,0,3,0,0,0,1,0,2]++o 49 0++[10,0,46,2]))),(T.sl .any 64 (bl (o 64 0))),(T.sl .any 64 (bl (o 64 0))),(T.sl .any 64 (bl (o 64 0))),(T.sl .any 64 (bl ([2,0,1,97]++o 60 0))),(T.sl .any 64 (bl ([120]++o 63 0))),(T.sl .any 64 (bl (o 64 0))),(T.sl .any 64 (bl (o 64 0))),(T.sl .any 64 (bl (o 64 0))),(T.sl .any 64 (bl (o 64 0)))]),(T.sl .any 5 [(i 1),(i 0),(i 2),(i 0),(i 0),(i 1),(i 0),(i 0),(i 0),(i 0),(i 2),(i 0),(i 1),(i 3),(i 1),(i 2),(i 0),(i 0),(i 0),(i 0),(i 0),(i 0),(i 0),(i 0),(i 0),(i 0),(i 0),(i 0),(i 0),(i 0),(i 0),(i 0),(i 0),(i 0),(i 0),(i 0),(i 0),(i 0),(i 0),(i 0),(i 0),(i 0),(i 0),(i 0),(i 0),(i 0),(i 0),(i 0),(i 0),(i 0)])]),(i 1),(i 1)]
def ZF:T:=(T.an [(T.sl (.own 0 105) 1 [(i 0),(i 2),(T.v (.string ⟨#[97]⟩))]),(T.sl (.own 1 3) 0 [])])
theorem ag9:Ev E gi ZE ZF:=aT (fn:=gl) [(ab,pZ,p7),(ab,rZ,r9),(oy,ZC,ZD),(ab,sa,sc),(ab,se,sf),(ab,sg,sh)] 200 ⟨rY,uC,ag8,uD,uE,uF,trivial⟩ rfl (by decide) rfl rfl (by kernel_rfl)
def uG:List T:=[(T.agg [(i 1),(i 5),(i 6),(i 5),(T.sl .any 12 [(T.sl .any 64 (bl ([3]++o 63 0))),(T.sl .any 64 (bl ([1,0,2,0,0,0,0,0,0,0,1]++o 49 0++[5,0,30,1]))),(T.sl .any 64 (bl ([2,0,1,0,3,0,0,0,1,0,2]++o 49 0++[10,0,46,2]))),(T.sl .any 64 (bl (o 64 0))),(T.sl .any 64 (bl (o 64 0))),(T.sl .any 64 (bl (o 64 0))),(T.sl .any 64 (bl ([2,0,1,97]++o 60 0))),(T.sl .any 64 (bl ([120]++o 63 0))),(T.sl .any 64 (bl (o 64 0))),(T.sl .any 64 (bl (o 64 0))),(T.sl .any 64 (bl (o 64 0))),(T.sl .any 64 (bl (o 64 0)))]),(T.sl .any 5 [(i 1),(i 0),(i 2),(i 0),(i 0),(i 1),(i 0),(i 0),(i 0),(i 0),(i 2),(i 0),(i 1),(i 3),(i 1),(i 2),(i 0),(i 0),(i 0),(i 0),(i 0),(i 0),(i 0),(i 0),(i 0),(i 0),(i 0),(i 0),(i 0),(i 0),(i 0),(i 0),(i 0),(i 0),(i 0),(i 0),(i 0),(i 0),(i 0),(i 0),(i 0),(i 0),(i 0),(i 0),(i 0),(i 0),(i 0),(i 0),(i 0),(i 0)])]),(i 2),(i 0)]
def uH:T:=(T.an [(T.sl .any 64 (bl ([120]++o 63 0))),(T.v (.bool true))])
theorem wx:Ev E ab uG uH:=aT (fn:=aM) [] 200 trivial rfl (by decide) rfl rfl (by kernel_rfl)
def uI:List T:=[(T.agg [(i 1),(i 5),(i 6),(i 5),(T.sl .any 12 [(T.sl .any 64 (bl ([3]++o 63 0))),(T.sl .any 64 (bl ([1,0,2,0,0,0,0,0,0,0,1]++o 49 0++[5,0,30,1]))),(T.sl .any 64 (bl ([2,0,1,0,3,0,0,0,1,0,2]++o 49 0++[10,0,46,2]))),(T.sl .any 64 (bl (o 64 0))),(T.sl .any 64 (bl (o 64 0))),(T.sl .any 64 (bl (o 64 0))),(T.sl .any 64 (bl ([2,0,1,97]++o 60 0))),(T.sl .any 64 (bl ([120]++o 63 0))),(T.sl .any 64 (bl (o 64 0))),(T.sl .any 64 (bl (o 64 0))),(T.sl .any 64 (bl (o 64 0))),(T.sl .any 64 (bl (o 64 0)))]),(T.sl .any 5 [(i 1),(i 0),(i 2),(i 0),(i 0),(i 1),(i 0),(i 0),(i 0),(i 0),(i 2),(i 0),(i 1),(i 3),(i 1),(i 2),(i 0),(i 0),(i 0),(i 0),(i 0),(i 0),(i 0),(i 0),(i 0),(i 0),(i 0),(i 0),(i 0),(i 0),(i 0),(i 0),(i 0),(i 0),(i 0),(i 0),(i 0),(i 0),(i 0),(i 0),(i 0),(i 0),(i 0),(i 0),(i 0),(i 0),(i 0),(i 0),(i 0),(i 0)])]),(i 2),(i 1)]
def uJ:T:=(T.an [(T.sl .nil 0 []),(T.v (.bool false))])
theorem wy:Ev E ab uI uJ:=aT (fn:=aM) [] 200 trivial rfl (by decide) rfl rfl (by kernel_rfl)
def uK:List T:=[(T.agg [(i 1),(i 5),(i 6),(i 5),(T.sl .any 12 [(T.sl .any 64 (bl ([3]++o 63 0))),(T.sl .any 64 (bl ([1,0,2,0,0,0,0,0,0,0,1]++o 49 0++[5,0,30,1]))),(T.sl .any 64 (bl ([2,0,1,0,3,0,0,0,1,0,2]++o 49 0++[10,0,46,2]))),(T.sl .any 64 (bl (o 64 0))),(T.sl .any 64 (bl (o 64 0))),(T.sl .any 64 (bl (o 64 0))),(T.sl .any 64 (bl ([2,0,1,97]++o 60 0))),(T.sl .any 64 (bl ([120]++o 63 0))),(T.sl .any 64 (bl (o 64 0))),(T.sl .any 64 (bl (o 64 0))),(T.sl .any 64 (bl (o 64 0))),(T.sl .any 64 (bl (o 64 0)))]),(T.sl .any 5 [(i 1),(i 0),(i 2),(i 0),(i 0),(i 1),(i 0),(i 0),(i 0),(i 0),(i 2),(i 0),(i 1),(i 3),(i 1),(i 2),(i 0),(i 0),(i 0),(i 0),(i 0),(i 0),(i 0),(i 0),(i 0),(i 0),(i 0),(i 0),(i 0),(i 0),(i 0),(i 0),(i 0),(i 0),(i 0),(i 0),(i 0),(i 0),(i 0),(i 0),(i 0),(i 0),(i 0),(i 0),(i 0),(i 0),(i 0),(i 0),(i 0),(i 0)])]),(i 2),(i 2)]
def uL:T:=(T.an [(T.sl .nil 0 []),(T.v (.bool false))])
theorem wz:Ev E ab uK uL:=aT (fn:=aM) [] 200 trivial rfl (by decide) rfl rfl (by kernel_rfl)
def uM:List T:=[(T.agg [(i 1),(i 5),(i 6),(i 5),(T.sl .any 12 [(T.sl .any 64 (bl ([3]++o 63 0))),(T.sl .any 64 (bl ([1,0,2,0,0,0,0,0,0,0,1]++o 49 0++[5,0,30,1]))),(T.sl .any 64 (bl ([2,0,1,0,3,0,0,0,1,0,2]++o 49 0++[10,0,46,2]))),(T.sl .any 64 (bl (o 64 0))),(T.sl .any 64 (bl (o 64 0))),(T.sl .any 64 (bl (o 64 0))),(T.sl .any 64 (bl ([2,0,1,97]++o 60 0))),(T.sl .any 64 (bl ([120]++o 63 0))),(T.sl .any 64 (bl (o 64 0))),(T.sl .any 64 (bl (o 64 0))),(T.sl .any 64 (bl (o 64 0))),(T.sl .any 64 (bl (o 64 0)))]),(T.sl .any 5 [(i 1),(i 0),(i 2),(i 0),(i 0),(i 1),(i 0),(i 0),(i 0),(i 0),(i 2),(i 0),(i 1),(i 3),(i 1),(i 2),(i 0),(i 0),(i 0),(i 0),(i 0),(i 0),(i 0),(i 0),(i 0),(i 0),(i 0),(i 0),(i 0),(i 0),(i 0),(i 0),(i 0),(i 0),(i 0),(i 0),(i 0),(i 0),(i 0),(i 0),(i 0),(i 0),(i 0),(i 0),(i 0),(i 0),(i 0),(i 0),(i 0),(i 0)])]),(i 2),(i 3)]
def uN:T:=(T.an [(T.sl .nil 0 []),(T.v (.bool false))])
theorem wA:Ev E ab uM uN:=aT (fn:=aM) [] 200 trivial rfl (by decide) rfl rfl (by kernel_rfl)
def PO:List T:=[(T.agg [(i 1),(i 5),(i 6),(i 5),(T.sl .any 12 [(T.sl .any 64 (bl ([3]++o 63 0))),(T.sl .any 64 (bl ([1,0,2,0,0,0,0,0,0,0,1]++o 49 0++[5,0,30,1]))),(T.sl .any 64 (bl ([2,0,1,0,3,0,0,0,1,0,2]++o 49 0++[10,0,46,2]))),(T.sl .any 64 (bl (o 64 0))),(T.sl .any 64 (bl (o 64 0))),(T.sl .any 64 (bl (o 64 0))),(T.sl .any 64 (bl ([2,0,1,97]++o 60 0))),(T.sl .any 64 (bl ([120]++o 63 0))),(T.sl .any 64 (bl (o 64 0))),(T.sl .any 64 (bl (o 64 0))),(T.sl .any 64 (bl (o 64 0))),(T.sl .any 64 (bl (o 64 0)))]),(T.sl .any 5 [(i 1),(i 0),(i 2),(i 0),(i 0),(i 1),(i 0),(i 0),(i 0),(i 0),(i 2),(i 0),(i 1),(i 3),(i 1),(i 2),(i 0),(i 0),(i 0),(i 0),(i 0),(i 0),(i 0),(i 0),(i 0),(i 0),(i 0),(i 0),(i 0),(i 0),(i 0),(i 0),(i 0),(i 0),(i 0),(i 0),(i 0),(i 0),(i 0),(i 0),(i 0),(i 0),(i 0),(i 0),(i 0),(i 0),(i 0),(i 0),(i 0),(i 0)])]),(i 2)]
def PQ:T:=(T.sl .any 1 [(y 120)])
theorem ZG:Ev E aP PO PQ:=aT (fn:=bU) [(ab,pZ,p7),(ab,rZ,r9),(ab,sa,sc),(ab,se,sf),(ab,sg,sh),(ab,uG,uH),(ab,uI,uJ),(ab,uK,uL),(ab,uM,uN)] 200 ⟨rY,uC,uD,uE,uF,wx,wy,wz,wA,trivial⟩ rfl (by decide) rfl rfl (by kernel_rfl)
def wB:List T:=[(T.agg [(i 1),(i 5),(i 6),(i 5),(T.sl .any 12 [(T.sl .any 64 (bl ([3]++o 63 0))),(T.sl .any 64 (bl ([1,0,2,0,0,0,0,0,0,0,1]++o 49 0++[5,0,30,1]))),(T.sl .any 64 (bl ([2,0,1,0,3,0,0,0,1,0,2]++o 49 0++[10,0,46,2]))),(T.sl .any 64 (bl (o 64 0))),(T.sl .any 64 (bl (o 64 0))),(T.sl .any 64 (bl (o 64 0))),(T.sl .any 64 (bl ([2,0,1,97]++o 60 0))),(T.sl .any 64 (bl ([120]++o 63 0))),(T.sl .any 64 (bl (o 64 0))),(T.sl .any 64 (bl (o 64 0))),(T.sl .any 64 (bl (o 64 0))),(T.sl .any 64 (bl (o 64 0)))]),(T.sl .any 5 [(i 1),(i 0),(i 2),(i 0),(i 0),(i 1),(i 0),(i 0),(i 0),(i 0),(i 2),(i 0),(i 1),(i 3),(i 1),(i 2),(i 0),(i 0),(i 0),(i 0),(i 0),(i 0),(i 0),(i 0),(i 0),(i 0),(i 0),(i 0),(i 0),(i 0),(i 0),(i 0),(i 0),(i 0),(i 0),(i 0),(i 0),(i 0),(i 0),(i 0),(i 0),(i 0),(i 0),(i 0),(i 0),(i 0),(i 0),(i 0),(i 0),(i 0)])]),(i 2),(i 4)]
def wC:T:=(T.an [(T.sl .nil 0 []),(T.v (.bool false))])
theorem yY:Ev E ab wB wC:=aT (fn:=aM) [] 200 trivial rfl (by decide) rfl rfl (by kernel_rfl)
def ZH:List T:=[(T.agg [(i 1),(i 5),(i 6),(i 5),(T.sl .any 12 [(T.sl .any 64 (bl ([3]++o 63 0))),(T.sl .any 64 (bl ([1,0,2,0,0,0,0,0,0,0,1]++o 49 0++[5,0,30,1]))),(T.sl .any 64 (bl ([2,0,1,0,3,0,0,0,1,0,2]++o 49 0++[10,0,46,2]))),(T.sl .any 64 (bl (o 64 0))),(T.sl .any 64 (bl (o 64 0))),(T.sl .any 64 (bl (o 64 0))),(T.sl .any 64 (bl ([2,0,1,97]++o 60 0))),(T.sl .any 64 (bl ([120]++o 63 0))),(T.sl .any 64 (bl (o 64 0))),(T.sl .any 64 (bl (o 64 0))),(T.sl .any 64 (bl (o 64 0))),(T.sl .any 64 (bl (o 64 0)))]),(T.sl .any 5 [(i 1),(i 0),(i 2),(i 0),(i 0),(i 1),(i 0),(i 0),(i 0),(i 0),(i 2),(i 0),(i 1),(i 3),(i 1),(i 2),(i 0),(i 0),(i 0),(i 0),(i 0),(i 0),(i 0),(i 0),(i 0),(i 0),(i 0),(i 0),(i 0),(i 0),(i 0),(i 0),(i 0),(i 0),(i 0),(i 0),(i 0),(i 0),(i 0),(i 0),(i 0),(i 0),(i 0),(i 0),(i 0),(i 0),(i 0),(i 0),(i 0),(i 0)])]),(i 2)]
def ZI:T:=(T.an [(T.agg [(i 0),(i 0),e0,(i 0),(i 0),(i 0),(i 0)]),(T.v (.bool true))])
theorem aha:Ev E bM ZH ZI:=aT (fn:=cw) [(ab,pZ,p7),(ab,rZ,r9),(ab,sa,sc),(ab,se,sf),(ab,sg,sh),(ab,uG,uH),(ab,uI,uJ),(ab,uK,uL),(ab,uM,uN),(ab,wB,wC)] 200 ⟨rY,uC,uD,uE,uF,wx,wy,wz,wA,yY,trivial⟩ rfl (by decide) rfl rfl (by kernel_rfl)
def PR:List T:=[(T.agg [(i 1),(i 5),(i 6),(i 5),(T.sl .any 12 [(T.sl .any 64 (bl ([3]++o 63 0))),(T.sl .any 64 (bl ([1,0,2,0,0,0,0,0,0,0,1]++o 49 0++[5,0,30,1]))),(T.sl .any 64 (bl ([2,0,1,0,3,0,0,0,1,0,2]++o 49 0++[10,0,46,2]))),(T.sl .any 64 (bl (o 64 0))),(T.sl .any 64 (bl (o 64 0))),(T.sl .any 64 (bl (o 64 0))),(T.sl .any 64 (bl ([2,0,1,97]++o 60 0))),(T.sl .any 64 (bl ([120]++o 63 0))),(T.sl .any 64 (bl (o 64 0))),(T.sl .any 64 (bl (o 64 0))),(T.sl .any 64 (bl (o 64 0))),(T.sl .any 64 (bl (o 64 0)))]),(T.sl .any 5 [(i 1),(i 0),(i 2),(i 0),(i 0),(i 1),(i 0),(i 0),(i 0),(i 0),(i 2),(i 0),(i 1),(i 3),(i 1),(i 2),(i 0),(i 0),(i 0),(i 0),(i 0),(i 0),(i 0),(i 0),(i 0),(i 0),(i 0),(i 0),(i 0),(i 0),(i 0),(i 0),(i 0),(i 0),(i 0),(i 0),(i 0),(i 0),(i 0),(i 0),(i 0),(i 0),(i 0),(i 0),(i 0),(i 0),(i 0),(i 0),(i 0),(i 0)])]),(i 3)]
def PS:T:=(T.sl .nil 0 [])
theorem ZJ:Ev E aP PR PS:=aT (fn:=bU) [(ab,pZ,p7),(ab,rZ,r9),(ab,sa,sc),(ab,se,sf),(ab,sg,sh),(ab,uG,uH),(ab,uI,uJ),(ab,uK,uL),(ab,uM,uN),(ab,wB,wC)] 200 ⟨rY,uC,uD,uE,uF,wx,wy,wz,wA,yY,trivial⟩ rfl (by decide) rfl rfl (by kernel_rfl)
def xZ:List T:=[(T.agg [(i 1),(i 5),(i 6),(i 5),(T.sl .any 12 [(T.sl .any 64 (bl ([3]++o 63 0))),(T.sl .any 64 (bl ([1,0,2,0,0,0,0,0,0,0,1]++o 49 0++[5,0,30,1]))),(T.sl .any 64 (bl ([2,0,1,0,3,0,0,0,1,0,2]++o 49 0++[10,0,46,2]))),(T.sl .any 64 (bl (o 64 0))),(T.sl .any 64 (bl (o 64 0))),(T.sl .any 64 (bl (o 64 0))),(T.sl .any 64 (bl ([2,0,1,97]++o 60 0))),(T.sl .any 64 (bl ([120]++o 63 0))),(T.sl .any 64 (bl (o 64 0))),(T.sl .any 64 (bl (o 64 0))),(T.sl .any 64 (bl (o 64 0))),(T.sl .any 64 (bl (o 64 0)))]),(T.sl .any 5 [(i 1),(i 0),(i 2),(i 0),(i 0),(i 1),(i 0),(i 0),(i 0),(i 0),(i 2),(i 0),(i 1),(i 3),(i 1),(i 2),(i 0),(i 0),(i 0),(i 0),(i 0),(i 0),(i 0),(i 0),(i 0),(i 0),(i 0),(i 0),(i 0),(i 0),(i 0),(i 0),(i 0),(i 0),(i 0),(i 0),(i 0),(i 0),(i 0),(i 0),(i 0),(i 0),(i 0),(i 0),(i 0),(i 0),(i 0),(i 0),(i 0),(i 0)])]),(i 3),(i 4)]
def x4:T:=(T.an [(T.sl .nil 0 []),(T.v (.bool false))])
theorem BC:Ev E ab xZ x4:=aT (fn:=aM) [] 200 trivial rfl (by decide) rfl rfl (by kernel_rfl)
def ZK:List T:=[(T.agg [(i 1),(i 5),(i 6),(i 5),(T.sl .any 12 [(T.sl .any 64 (bl ([3]++o 63 0))),(T.sl .any 64 (bl ([1,0,2,0,0,0,0,0,0,0,1]++o 49 0++[5,0,30,1]))),(T.sl .any 64 (bl ([2,0,1,0,3,0,0,0,1,0,2]++o 49 0++[10,0,46,2]))),(T.sl .any 64 (bl (o 64 0))),(T.sl .any 64 (bl (o 64 0))),(T.sl .any 64 (bl (o 64 0))),(T.sl .any 64 (bl ([2,0,1,97]++o 60 0))),(T.sl .any 64 (bl ([120]++o 63 0))),(T.sl .any 64 (bl (o 64 0))),(T.sl .any 64 (bl (o 64 0))),(T.sl .any 64 (bl (o 64 0))),(T.sl .any 64 (bl (o 64 0)))]),(T.sl .any 5 [(i 1),(i 0),(i 2),(i 0),(i 0),(i 1),(i 0),(i 0),(i 0),(i 0),(i 2),(i 0),(i 1),(i 3),(i 1),(i 2),(i 0),(i 0),(i 0),(i 0),(i 0),(i 0),(i 0),(i 0),(i 0),(i 0),(i 0),(i 0),(i 0),(i 0),(i 0),(i 0),(i 0),(i 0),(i 0),(i 0),(i 0),(i 0),(i 0),(i 0),(i 0),(i 0),(i 0),(i 0),(i 0),(i 0),(i 0),(i 0),(i 0),(i 0)])]),(i 3)]
def ZL:T:=(T.an [(T.agg [(i 0),(i 0),e0,(i 0),(i 0),(i 0),(i 0)]),(T.v (.bool true))])
theorem ahb:Ev E bM ZK ZL:=aT (fn:=cw) [(ab,pZ,p7),(ab,rZ,r9),(ab,sa,sc),(ab,se,sf),(ab,sg,sh),(ab,uG,uH),(ab,uI,uJ),(ab,uK,uL),(ab,uM,uN),(ab,wB,wC),(ab,xZ,x4)] 200 ⟨rY,uC,uD,uE,uF,wx,wy,wz,wA,yY,BC,trivial⟩ rfl (by decide) rfl rfl (by kernel_rfl)
def PT:List T:=[(T.agg [(i 1),(i 5),(i 6),(i 5),(T.sl .any 12 [(T.sl .any 64 (bl ([3]++o 63 0))),(T.sl .any 64 (bl ([1,0,2,0,0,0,0,0,0,0,1]++o 49 0++[5,0,30,1]))),(T.sl .any 64 (bl ([2,0,1,0,3,0,0,0,1,0,2]++o 49 0++[10,0,46,2]))),(T.sl .any 64 (bl (o 64 0))),(T.sl .any 64 (bl (o 64 0))),(T.sl .any 64 (bl (o 64 0))),(T.sl .any 64 (bl ([2,0,1,97]++o 60 0))),(T.sl .any 64 (bl ([120]++o 63 0))),(T.sl .any 64 (bl (o 64 0))),(T.sl .any 64 (bl (o 64 0))),(T.sl .any 64 (bl (o 64 0))),(T.sl .any 64 (bl (o 64 0)))]),(T.sl .any 5 [(i 1),(i 0),(i 2),(i 0),(i 0),(i 1),(i 0),(i 0),(i 0),(i 0),(i 2),(i 0),(i 1),(i 3),(i 1),(i 2),(i 0),(i 0),(i 0),(i 0),(i 0),(i 0),(i 0),(i 0),(i 0),(i 0),(i 0),(i 0),(i 0),(i 0),(i 0),(i 0),(i 0),(i 0),(i 0),(i 0),(i 0),(i 0),(i 0),(i 0),(i 0),(i 0),(i 0),(i 0),(i 0),(i 0),(i 0),(i 0),(i 0),(i 0)])]),(i 4)]
def PU:T:=(T.sl .nil 0 [])
theorem ZM:Ev E aP PT PU:=aT (fn:=bU) [(ab,pZ,p7),(ab,rZ,r9),(ab,sa,sc),(ab,se,sf),(ab,sg,sh),(ab,uG,uH),(ab,uI,uJ),(ab,uK,uL),(ab,uM,uN),(ab,wB,wC),(ab,xZ,x4)] 200 ⟨rY,uC,uD,uE,uF,wx,wy,wz,wA,yY,BC,trivial⟩ rfl (by decide) rfl rfl (by kernel_rfl)
def FJ:List T:=[(T.agg [(i 1),(i 5),(i 6),(i 5),(T.sl .any 12 [(T.sl .any 64 (bl ([3]++o 63 0))),(T.sl .any 64 (bl ([1,0,2,0,0,0,0,0,0,0,1]++o 49 0++[5,0,30,1]))),(T.sl .any 64 (bl ([2,0,1,0,3,0,0,0,1,0,2]++o 49 0++[10,0,46,2]))),(T.sl .any 64 (bl (o 64 0))),(T.sl .any 64 (bl (o 64 0))),(T.sl .any 64 (bl (o 64 0))),(T.sl .any 64 (bl ([2,0,1,97]++o 60 0))),(T.sl .any 64 (bl ([120]++o 63 0))),(T.sl .any 64 (bl (o 64 0))),(T.sl .any 64 (bl (o 64 0))),(T.sl .any 64 (bl (o 64 0))),(T.sl .any 64 (bl (o 64 0)))]),(T.sl .any 5 [(i 1),(i 0),(i 2),(i 0),(i 0),(i 1),(i 0),(i 0),(i 0),(i 0),(i 2),(i 0),(i 1),(i 3),(i 1),(i 2),(i 0),(i 0),(i 0),(i 0),(i 0),(i 0),(i 0),(i 0),(i 0),(i 0),(i 0),(i 0),(i 0),(i 0),(i 0),(i 0),(i 0),(i 0),(i 0),(i 0),(i 0),(i 0),(i 0),(i 0),(i 0),(i 0),(i 0),(i 0),(i 0),(i 0),(i 0),(i 0),(i 0),(i 0)])]),(i 4),(i 4)]
def FK:T:=(T.an [(T.sl .nil 0 []),(T.v (.bool false))])
theorem Kx:Ev E ab FJ FK:=aT (fn:=aM) [] 200 trivial rfl (by decide) rfl rfl (by kernel_rfl)
def ZN:List T:=[(T.agg [(i 1),(i 5),(i 6),(i 5),(T.sl .any 12 [(T.sl .any 64 (bl ([3]++o 63 0))),(T.sl .any 64 (bl ([1,0,2,0,0,0,0,0,0,0,1]++o 49 0++[5,0,30,1]))),(T.sl .any 64 (bl ([2,0,1,0,3,0,0,0,1,0,2]++o 49 0++[10,0,46,2]))),(T.sl .any 64 (bl (o 64 0))),(T.sl .any 64 (bl (o 64 0))),(T.sl .any 64 (bl (o 64 0))),(T.sl .any 64 (bl ([2,0,1,97]++o 60 0))),(T.sl .any 64 (bl ([120]++o 63 0))),(T.sl .any 64 (bl (o 64 0))),(T.sl .any 64 (bl (o 64 0))),(T.sl .any 64 (bl (o 64 0))),(T.sl .any 64 (bl (o 64 0)))]),(T.sl .any 5 [(i 1),(i 0),(i 2),(i 0),(i 0),(i 1),(i 0),(i 0),(i 0),(i 0),(i 2),(i 0),(i 1),(i 3),(i 1),(i 2),(i 0),(i 0),(i 0),(i 0),(i 0),(i 0),(i 0),(i 0),(i 0),(i 0),(i 0),(i 0),(i 0),(i 0),(i 0),(i 0),(i 0),(i 0),(i 0),(i 0),(i 0),(i 0),(i 0),(i 0),(i 0),(i 0),(i 0),(i 0),(i 0),(i 0),(i 0),(i 0),(i 0),(i 0)])]),(i 4)]
def ZO:T:=(T.an [(T.agg [(i 0),(i 0),e0,(i 0),(i 0),(i 0),(i 0)]),(T.v (.bool true))])
theorem ahc:Ev E bM ZN ZO:=aT (fn:=cw) [(ab,pZ,p7),(ab,rZ,r9),(ab,sa,sc),(ab,se,sf),(ab,sg,sh),(ab,uG,uH),(ab,uI,uJ),(ab,uK,uL),(ab,uM,uN),(ab,wB,wC),(ab,xZ,x4),(ab,FJ,FK)] 200 ⟨rY,uC,uD,uE,uF,wx,wy,wz,wA,yY,BC,Kx,trivial⟩ rfl (by decide) rfl rfl (by kernel_rfl)
def PV:List T:=[(T.agg [(i 1),(i 5),(i 6),(i 5),(T.sl .any 12 [(T.sl .any 64 (bl ([3]++o 63 0))),(T.sl .any 64 (bl ([1,0,2,0,0,0,0,0,0,0,1]++o 49 0++[5,0,30,1]))),(T.sl .any 64 (bl ([2,0,1,0,3,0,0,0,1,0,2]++o 49 0++[10,0,46,2]))),(T.sl .any 64 (bl (o 64 0))),(T.sl .any 64 (bl (o 64 0))),(T.sl .any 64 (bl (o 64 0))),(T.sl .any 64 (bl ([2,0,1,97]++o 60 0))),(T.sl .any 64 (bl ([120]++o 63 0))),(T.sl .any 64 (bl (o 64 0))),(T.sl .any 64 (bl (o 64 0))),(T.sl .any 64 (bl (o 64 0))),(T.sl .any 64 (bl (o 64 0)))]),(T.sl .any 5 [(i 1),(i 0),(i 2),(i 0),(i 0),(i 1),(i 0),(i 0),(i 0),(i 0),(i 2),(i 0),(i 1),(i 3),(i 1),(i 2),(i 0),(i 0),(i 0),(i 0),(i 0),(i 0),(i 0),(i 0),(i 0),(i 0),(i 0),(i 0),(i 0),(i 0),(i 0),(i 0),(i 0),(i 0),(i 0),(i 0),(i 0),(i 0),(i 0),(i 0),(i 0),(i 0),(i 0),(i 0),(i 0),(i 0),(i 0),(i 0),(i 0),(i 0)])]),(i 5)]
def PW:T:=(T.sl .nil 0 [])
theorem ZP:Ev E aP PV PW:=aT (fn:=bU) [(ab,pZ,p7),(ab,rZ,r9),(ab,sa,sc),(ab,se,sf),(ab,sg,sh),(ab,uG,uH),(ab,uI,uJ),(ab,uK,uL),(ab,uM,uN),(ab,wB,wC),(ab,xZ,x4),(ab,FJ,FK)] 200 ⟨rY,uC,uD,uE,uF,wx,wy,wz,wA,yY,BC,Kx,trivial⟩ rfl (by decide) rfl rfl (by kernel_rfl)
def Tc:List T:=[(T.agg [(i 1),(i 5),(i 6),(i 5),(T.sl .any 12 [(T.sl .any 64 (bl ([3]++o 63 0))),(T.sl .any 64 (bl ([1,0,2,0,0,0,0,0,0,0,1]++o 49 0++[5,0,30,1]))),(T.sl .any 64 (bl ([2,0,1,0,3,0,0,0,1,0,2]++o 49 0++[10,0,46,2]))),(T.sl .any 64 (bl (o 64 0))),(T.sl .any 64 (bl (o 64 0))),(T.sl .any 64 (bl (o 64 0))),(T.sl .any 64 (bl ([2,0,1,97]++o 60 0))),(T.sl .any 64 (bl ([120]++o 63 0))),(T.sl .any 64 (bl (o 64 0))),(T.sl .any 64 (bl (o 64 0))),(T.sl .any 64 (bl (o 64 0))),(T.sl .any 64 (bl (o 64 0)))]),(T.sl .any 5 [(i 1),(i 0),(i 2),(i 0),(i 0),(i 1),(i 0),(i 0),(i 0),(i 0),(i 2),(i 0),(i 1),(i 3),(i 1),(i 2),(i 0),(i 0),(i 0),(i 0),(i 0),(i 0),(i 0),(i 0),(i 0),(i 0),(i 0),(i 0),(i 0),(i 0),(i 0),(i 0),(i 0),(i 0),(i 0),(i 0),(i 0),(i 0),(i 0),(i 0),(i 0),(i 0),(i 0),(i 0),(i 0),(i 0),(i 0),(i 0),(i 0),(i 0)])]),(i 5),(i 4)]
def Td:T:=(T.an [(T.sl .nil 0 []),(T.v (.bool false))])
theorem aeF:Ev E ab Tc Td:=aT (fn:=aM) [] 200 trivial rfl (by decide) rfl rfl (by kernel_rfl)
def ZQ:List T:=[(T.agg [(i 1),(i 5),(i 6),(i 5),(T.sl .any 12 [(T.sl .any 64 (bl ([3]++o 63 0))),(T.sl .any 64 (bl ([1,0,2,0,0,0,0,0,0,0,1]++o 49 0++[5,0,30,1]))),(T.sl .any 64 (bl ([2,0,1,0,3,0,0,0,1,0,2]++o 49 0++[10,0,46,2]))),(T.sl .any 64 (bl (o 64 0))),(T.sl .any 64 (bl (o 64 0))),(T.sl .any 64 (bl (o 64 0))),(T.sl .any 64 (bl ([2,0,1,97]++o 60 0))),(T.sl .any 64 (bl ([120]++o 63 0))),(T.sl .any 64 (bl (o 64 0))),(T.sl .any 64 (bl (o 64 0))),(T.sl .any 64 (bl (o 64 0))),(T.sl .any 64 (bl (o 64 0)))]),(T.sl .any 5 [(i 1),(i 0),(i 2),(i 0),(i 0),(i 1),(i 0),(i 0),(i 0),(i 0),(i 2),(i 0),(i 1),(i 3),(i 1),(i 2),(i 0),(i 0),(i 0),(i 0),(i 0),(i 0),(i 0),(i 0),(i 0),(i 0),(i 0),(i 0),(i 0),(i 0),(i 0),(i 0),(i 0),(i 0),(i 0),(i 0),(i 0),(i 0),(i 0),(i 0),(i 0),(i 0),(i 0),(i 0),(i 0),(i 0),(i 0),(i 0),(i 0),(i 0)])]),(i 5)]
def ZR:T:=(T.an [(T.agg [(i 0),(i 0),e0,(i 0),(i 0),(i 0),(i 0)]),(T.v (.bool true))])
theorem ahd:Ev E bM ZQ ZR:=aT (fn:=cw) [(ab,pZ,p7),(ab,rZ,r9),(ab,sa,sc),(ab,se,sf),(ab,sg,sh),(ab,uG,uH),(ab,uI,uJ),(ab,uK,uL),(ab,uM,uN),(ab,wB,wC),(ab,xZ,x4),(ab,FJ,FK),(ab,Tc,Td)] 200 ⟨rY,uC,uD,uE,uF,wx,wy,wz,wA,yY,BC,Kx,aeF,trivial⟩ rfl (by decide) rfl rfl (by kernel_rfl)
def ZS:List T:=[(T.sl .any 4 [z0,z0,z0,z0])]
def ZT:T:=z0
theorem ahe:Ev E gj ZS ZT:=aT (fn:=gm) [] 200 trivial rfl (by decide) rfl rfl (by kernel_rfl)
def ZU:List T:=[(T.agg [(i 1),(i 5),(i 6),(i 5)]),(T.sl .any 12 [(T.sl .any 64 (bl ([3]++o 63 0))),(T.sl .any 64 (bl ([1,0,2,0,0,0,0,0,0,0,1]++o 49 0++[5,0,30,1]))),(T.sl .any 64 (bl ([2,0,1,0,3,0,0,0,1,0,2]++o 49 0++[10,0,46,2]))),(T.sl .any 64 (bl (o 64 0))),(T.sl .any 64 (bl (o 64 0))),(T.sl .any 64 (bl (o 64 0))),(T.sl .any 64 (bl ([2,0,1,97]++o 60 0))),(T.sl .any 64 (bl ([120]++o 63 0))),(T.sl .any 64 (bl (o 64 0))),(T.sl .any 64 (bl (o 64 0))),(T.sl .any 64 (bl (o 64 0))),(T.sl .any 64 (bl (o 64 0)))]),(i 1),(i 1)]
def ZV:T:=(T.an [(T.agg [(T.sl (.own 0 84) 5 [(i 1),(i 0),(i 2),(i 0),z0,(T.sl .any 1 [(i 0),(i 2),(T.v (.string ⟨#[97]⟩))]),(i 0),(i 0),e0,(i 0),(i 0),(i 0),(i 0),(i 2),(i 0),(i 1),(i 3),(T.sl .any 1 [(y 120)]),z0,(i 0),(i 0),e0,(i 0),(i 0),(i 0),(i 0),(i 0),(i 0),(i 0),(i 0),z0,z0,(i 0),(i 0),e0,(i 0),(i 0),(i 0),(i 0),(i 0),(i 0),(i 0),(i 0),z0,z0,(i 0),(i 0),e0,(i 0),(i 0),(i 0),(i 0),(i 0),(i 0),(i 0),(i 0),z0,z0,(i 0),(i 0),e0,(i 0),(i 0),(i 0),(i 0)])]),z0])
theorem ahf:Ev E iU ZU ZV:=aT (fn:=dW) [(gz,Vb,Vc),(rA,Zo,Zp),(aP,PM,PN),(bM,Zr,Zs),(gi,ZE,ZF),(aP,PO,PQ),(bM,ZH,ZI),(aP,PR,PS),(bM,ZK,ZL),(aP,PT,PU),(bM,ZN,ZO),(aP,PV,PW),(bM,ZQ,ZR),(gj,ZS,ZT)] 200 ⟨adg,ag2,Zq,ag3,ag9,ZG,aha,ZJ,ahb,ZM,ahc,ZP,ahd,ahe,trivial⟩ rfl (by decide) rfl rfl (by kernel_rfl)
def ZW:List T:=[(T.agg [(T.sl .any 5 [(i 1),(i 0),(i 2),(i 0),z0,(T.sl .any 1 [(i 0),(i 2),(T.v (.string ⟨#[97]⟩))]),(i 0),(i 0),e0,(i 0),(i 0),(i 0),(i 0),(i 2),(i 0),(i 1),(i 3),(T.sl .any 1 [(y 120)]),z0,(i 0),(i 0),e0,(i 0),(i 0),(i 0),(i 0),(i 0),(i 0),(i 0),(i 0),z0,z0,(i 0),(i 0),e0,(i 0),(i 0),(i 0),(i 0),(i 0),(i 0),(i 0),(i 0),z0,z0,(i 0),(i 0),e0,(i 0),(i 0),(i 0),(i 0),(i 0),(i 0),(i 0),(i 0),z0,z0,(i 0),(i 0),e0,(i 0),(i 0),(i 0),(i 0)])]),(T.agg [(T.sl .any 5 [(i 1),(i 0),(i 2),(i 0),z0,(T.sl .any 1 [(i 0),(i 2),(T.v (.string ⟨#[97]⟩))]),(i 0),(i 0),e0,(i 0),(i 0),(i 0),(i 0),(i 2),(i 0),(i 1),(i 3),(T.sl .any 1 [(y 120)]),z0,(i 0),(i 0),e0,(i 0),(i 0),(i 0),(i 0),(i 0),(i 0),(i 0),(i 0),z0,z0,(i 0),(i 0),e0,(i 0),(i 0),(i 0),(i 0),(i 0),(i 0),(i 0),(i 0),z0,z0,(i 0),(i 0),e0,(i 0),(i 0),(i 0),(i 0),(i 0),(i 0),(i 0),(i 0),z0,z0,(i 0),(i 0),e0,(i 0),(i 0),(i 0),(i 0)])])]
def ZX:T:=(T.v (.bool true))
theorem ahg:Ev E lh ZW ZX:=aT (fn:=pD) [] 200 trivial rfl (by decide) rfl rfl (by kernel_rfl)
def ZY:List T:=[(T.sl .any 12 [(T.sl .any 64 (bl ([3]++o 63 0))),(T.sl .any 64 (bl ([1,0,2,0,0,0,0,0,0,0,1]++o 49 0++[5,0,30,1]))),(T.sl .any 64 (bl ([2,0,1,0,3,0,0,0,1,0,2]++o 49 0++[10,0,46,2]))),(T.sl .any 64 (bl (o 64 0))),(T.sl .any 64 (bl (o 64 0))),(T.sl .any 64 (bl (o 64 0))),(T.sl .any 64 (bl ([2,0,1,97]++o 60 0))),(T.sl .any 64 (bl ([120]++o 63 0))),(T.sl .any 64 (bl (o 64 0))),(T.sl .any 64 (bl (o 64 0))),(T.sl .any 64 (bl (o 64 0))),(T.sl .any 64 (bl (o 64 0)))]),(T.agg [(i 1),(i 5),(i 6),(i 5)]),(T.sl .any 5 [(i 1),(i 0),(i 2),(i 0),(i 0),(i 1),(i 0),(i 0),(i 0),(i 0),(i 2),(i 0),(i 1),(i 3),(i 1),(i 2),(i 0),(i 0),(i 0),(i 0),(i 0),(i 0),(i 0),(i 0),(i 0),(i 0),(i 0),(i 0),(i 0),(i 0),(i 0),(i 0),(i 0),(i 0),(i 0),(i 0),(i 0),(i 0),(i 0),(i 0),(i 0),(i 0),(i 0),(i 0),(i 0),(i 0),(i 0),(i 0),(i 0),(i 0)]),(i 2)]
def ZZ:T:=(T.sl .any 1 [(y 120)])
theorem ahh:Ev E lZ ZY ZZ:=aT (fn:=l5) [(aP,PM,PN),(aP,PO,PQ),(aP,PR,PS),(aP,PT,PU),(aP,PV,PW)] 200 ⟨Zq,ZG,ZJ,ZM,ZP,trivial⟩ rfl (by decide) rfl rfl (by kernel_rfl)
def aj3:List T:=[]
def aj4:T:=(T.v (.bool true))
theorem aj5:Ev E fT aj3 aj4:=aT (fn:=wU) [(x8,YP,YQ),(wG,Y7,Y8),(pv,Y9,Za),(gz,Vb,Vc),(iU,ZU,ZV),(lh,ZW,ZX),(lZ,ZY,ZZ)] 200 ⟨agO,agV,agW,adg,ahf,ahg,ahh,trivial⟩ rfl (by decide) rfl rfl (by kernel_rfl)
end Go.Vi.Zz.Run
end
