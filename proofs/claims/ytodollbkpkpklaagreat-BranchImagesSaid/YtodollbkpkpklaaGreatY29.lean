/-
  A claim's own text, joined by a small program out of: RunZ.
-/
import Derived.Test.YtodollbkpkpklaaGreatY3
import Derived.Test.YtodollbkpkpklaaGreatY28
import Derived.KernelRfl
set_option linter.unusedVariables false
set_option linter.unusedSimpArgs false
section
set_option maxRecDepth 1000000
namespace Go.Vi.Zz.Run
open Go Go.Vi Go.Vi.Zz
def bl(l:List Nat):List T:=l.map fun(n:Nat)=>T.v (.int .u8 (Int.ofNat n))
def i(n:Int):T:= .v (.int .i64 n)
def y(n:Int):T:= .v (.int .u8 n)
def o(n x:Nat):List Nat:=List.replicate n x
def z0:T:= .sl .any 0 []
def e0:T:= .v (.string ⟨#[]⟩)
def Y6:List T:=[]
def Y7:T:=(T.agg [(i 1),(i 5),(i 6),(i 5),(T.sl (.own 0 84) 5 [(i 1),(i 0),(i 2),(i 0),z0,z0,(i 0),(i 0),e0,(i 0),(i 0),(i 0),(i 0),(i 1),(i 0),(i 2),(i 0),z0,z0,(i 0),(i 0),e0,(i 0),(i 0),(i 0),(i 0),(i 1),(i 0),(i 2),(i 0),z0,z0,(i 0),(i 0),e0,(i 0),(i 0),(i 0),(i 0),(i 0),(i 0),(i 0),(i 0),z0,z0,(i 0),(i 0),e0,(i 0),(i 0),(i 0),(i 0),(i 0),(i 0),(i 0),(i 0),z0,z0,(i 0),(i 0),e0,(i 0),(i 0),(i 0),(i 0)]),(T.sl (.own 1 41) 1 [(T.sl .any 5 [(i 1),(i 0),(i 2),(i 0),z0,(T.sl .any 1 [(i 0),(i 2),(T.v (.string ⟨#[97]⟩))]),(i 0),(i 0),e0,(i 0),(i 0),(i 0),(i 0),(i 2),(i 0),(i 1),(i 3),(T.sl .any 1 [(y 120)]),z0,(i 0),(i 0),e0,(i 0),(i 0),(i 0),(i 0),(i 0),(i 0),(i 0),(i 0),z0,z0,(i 0),(i 0),e0,(i 0),(i 0),(i 0),(i 0),(i 0),(i 0),(i 0),(i 0),z0,z0,(i 0),(i 0),e0,(i 0),(i 0),(i 0),(i 0),(i 0),(i 0),(i 0),(i 0),z0,z0,(i 0),(i 0),e0,(i 0),(i 0),(i 0),(i 0)])])])
theorem aho:Ev E yE Y6 Y7:=aT (fn:=yN) [] 200 trivial rfl (by decide) rfl rfl (by kernel_rfl)
def BY:List T:=[(T.sl .any 60 (bl ([82,84,66,76,1,1,5,6,5]++o 51 0)))]
def BZ:T:=(T.al [(i 327),(i 19055)])
theorem F7:Ev E cU BY BZ:=aT (fn:=j9) [] 200 trivial rfl (by decide) rfl rfl (by kernel_rfl)
def B0:List T:=[(T.sl .any 60 (bl ([82,84,66,76,1,1,5,6,5]++o 51 0)))]
def B3:T:=(i 1248788807)
theorem F8:Ev E ea B0 B3:=aT (fn:=mL) [(cU,BY,BZ)] 200 ⟨F7,trivial⟩ rfl (by decide) rfl rfl (by kernel_rfl)
def B5:List T:=[(T.sl .any 9 (bl [82,84,66,76,1,1,5,6,5]))]
def B6:T:=(T.sl (.own 0 5) 64 (bl ([82,84,66,76,1,1,5,6,5]++o 51 0++[71,1,111,74])))
theorem Fl:Ev E bR B5 B6:=aT (fn:=j8) [(ea,B0,B3)] 200 ⟨F8,trivial⟩ rfl (by decide) rfl rfl (by kernel_rfl)
def Y8:List T:=[(T.agg [(i 1),(i 5),(i 6),(i 5)])]
def Y9:T:=(T.sl (.own 0 5) 64 (bl ([82,84,66,76,1,1,5,6,5]++o 51 0++[71,1,111,74])))
theorem ahp:Ev E mn Y8 Y9:=aT (fn:=oU) [(bR,B5,B6)] 200 ⟨Fl,trivial⟩ rfl (by decide) rfl rfl (by kernel_rfl)
def KJ:List T:=[(T.agg [(i 1),(i 0),(i 2),(i 0),z0,(T.sl .any 1 [(i 0),(i 2),(T.v (.string ⟨#[97]⟩))]),(i 0),(i 0),e0,(i 0),(i 0),(i 0),(i 0)]),(i 0)]
def KK:T:=(T.sl (.own 0 5) 64 (bl ([2,0,1,97]++o 60 0)))
theorem Tf:Ev E kJ KJ KK:=aT (fn:=s6) [] 200 trivial rfl (by decide) rfl rfl (by kernel_rfl)
def F9:List T:=[(T.sl .any 60 (bl ([1,0,2,0,0,0,0,0,0,0,1]++o 49 0)))]
def Ga:T:=(T.al [(i 5),(i 286)])
theorem KL:Ev E cU F9 Ga:=aT (fn:=j9) [] 200 trivial rfl (by decide) rfl rfl (by kernel_rfl)
def Gb:List T:=[(T.sl .any 60 (bl ([1,0,2,0,0,0,0,0,0,0,1]++o 49 0)))]
def Gc:T:=(i 18743301)
theorem KM:Ev E ea Gb Gc:=aT (fn:=mL) [(cU,BY,BZ),(cU,F9,Ga)] 200 ⟨F7,KL,trivial⟩ rfl (by decide) rfl rfl (by kernel_rfl)
def Fm:List T:=[(T.sl .any 20 (bl ([1,0,2,0,0,0,0,0,0,0,1]++o 9 0)))]
def Fo:T:=(T.sl (.own 0 5) 64 (bl ([1,0,2,0,0,0,0,0,0,0,1]++o 49 0++[5,0,30,1])))
theorem Jv:Ev E bR Fm Fo:=aT (fn:=j8) [(ea,B0,B3),(ea,Gb,Gc)] 200 ⟨F8,KM,trivial⟩ rfl (by decide) rfl rfl (by kernel_rfl)
def PQ:List T:=[(T.agg [(i 1),(i 0),(i 2),(i 0),(i 0),(i 1),(i 0),(i 0),(i 0),(i 0)])]
def PR:T:=(T.sl (.own 0 5) 64 (bl ([1,0,2,0,0,0,0,0,0,0,1]++o 49 0++[5,0,30,1])))
theorem Za:Ev E cY PQ PR:=aT (fn:=ig) [(bR,B5,B6),(bR,Fm,Fo)] 200 ⟨Fl,Jv,trivial⟩ rfl (by decide) rfl rfl (by kernel_rfl)
def KN:List T:=[(T.agg [(i 2),(i 0),(i 1),(i 3),(T.sl .any 1 [(y 120)]),z0,(i 0),(i 0),e0,(i 0),(i 0),(i 0),(i 0)]),(i 0)]
def KO:T:=(T.sl (.own 0 5) 64 (bl ([120]++o 63 0)))
theorem Tg:Ev E kJ KN KO:=aT (fn:=s6) [] 200 trivial rfl (by decide) rfl rfl (by kernel_rfl)
def KP:List T:=[(T.sl .any 60 (bl ([2,0,1,0,3,0,0,0,1,0,2]++o 49 0)))]
def KQ:T:=(T.al [(i 10),(i 558)])
theorem Th:Ev E cU KP KQ:=aT (fn:=j9) [] 200 trivial rfl (by decide) rfl rfl (by kernel_rfl)
def KR:List T:=[(T.sl .any 60 (bl ([2,0,1,0,3,0,0,0,1,0,2]++o 49 0)))]
def KS:T:=(i 36569098)
theorem Ti:Ev E ea KR KS:=aT (fn:=mL) [(cU,BY,BZ),(cU,F9,Ga),(cU,KP,KQ)] 200 ⟨F7,KL,Th,trivial⟩ rfl (by decide) rfl rfl (by kernel_rfl)
def Jw:List T:=[(T.sl .any 20 (bl ([2,0,1,0,3,0,0,0,1,0,2]++o 9 0)))]
def Jx:T:=(T.sl (.own 0 5) 64 (bl ([2,0,1,0,3,0,0,0,1,0,2]++o 49 0++[10,0,46,2])))
theorem PS:Ev E bR Jw Jx:=aT (fn:=j8) [(ea,B0,B3),(ea,Gb,Gc),(ea,KR,KS)] 200 ⟨F8,KM,Ti,trivial⟩ rfl (by decide) rfl rfl (by kernel_rfl)
def PT:List T:=[(T.agg [(i 2),(i 0),(i 1),(i 3),(i 1),(i 2),(i 0),(i 0),(i 0),(i 0)])]
def PU:T:=(T.sl (.own 0 5) 64 (bl ([2,0,1,0,3,0,0,0,1,0,2]++o 49 0++[10,0,46,2])))
theorem Zb:Ev E cY PT PU:=aT (fn:=ig) [(bR,B5,B6),(bR,Fm,Fo),(bR,Jw,Jx)] 200 ⟨Fl,Jv,PS,trivial⟩ rfl (by decide) rfl rfl (by kernel_rfl)
def PV:List T:=[(T.agg [(i 0),(i 0),(i 0),(i 0),(i 0),(i 0),(i 0),(i 0),(i 0),(i 0)])]
def PW:T:=(T.sl (.own 0 5) 64 (bl (o 64 0)))
theorem Zc:Ev E cY PV PW:=aT (fn:=ig) [(bR,B5,B6),(bR,Fm,Fo),(bR,Jw,Jx)] 200 ⟨Fl,Jv,PS,trivial⟩ rfl (by decide) rfl rfl (by kernel_rfl)
def Zd:List T:=[(T.agg [(i 1),(i 5),(i 6),(i 5)]),(T.agg [(T.sl .any 5 [(i 1),(i 0),(i 2),(i 0),z0,(T.sl .any 1 [(i 0),(i 2),(T.v (.string ⟨#[97]⟩))]),(i 0),(i 0),e0,(i 0),(i 0),(i 0),(i 0),(i 2),(i 0),(i 1),(i 3),(T.sl .any 1 [(y 120)]),z0,(i 0),(i 0),e0,(i 0),(i 0),(i 0),(i 0),(i 0),(i 0),(i 0),(i 0),z0,z0,(i 0),(i 0),e0,(i 0),(i 0),(i 0),(i 0),(i 0),(i 0),(i 0),(i 0),z0,z0,(i 0),(i 0),e0,(i 0),(i 0),(i 0),(i 0),(i 0),(i 0),(i 0),(i 0),z0,z0,(i 0),(i 0),e0,(i 0),(i 0),(i 0),(i 0)])])]
def Ze:T:=(T.al [(T.sl (.own 0 5) 768 (bl ([3]++o 63 0++[1,0,2,0,0,0,0,0,0,0,1]++o 49 0++[5,0,30,1,2,0,1,0,3,0,0,0,1,0,2]++o 49 0++[10,0,46,2]++o 192 0++[2,0,1,97]++o 60 0++[120]++o 319 0))),(T.v (.bool true))])
theorem ahq:Ev E mF Zd Ze:=aT (fn:=pE) [(kJ,KJ,KK),(cY,PQ,PR),(kJ,KN,KO),(cY,PT,PU),(cY,PV,PW)] 200 ⟨Tf,Za,Tg,Zb,Zc,trivial⟩ rfl (by decide) rfl rfl (by kernel_rfl)
def Tj:List T:=[(T.sl .any 60 (bl ([1,0,2]++o 57 0)))]
def Tk:T:=(T.al [(i 4),(i 236)])
theorem ae8:Ev E cU Tj Tk:=aT (fn:=j9) [] 200 trivial rfl (by decide) rfl rfl (by kernel_rfl)
def Tl:List T:=[(T.sl .any 60 (bl ([1,0,2]++o 57 0)))]
def Tm:T:=(i 15466500)
theorem ae9:Ev E ea Tl Tm:=aT (fn:=mL) [(cU,BY,BZ),(cU,F9,Ga),(cU,KP,KQ),(cU,Tj,Tk)] 200 ⟨F7,KL,Th,ae8,trivial⟩ rfl (by decide) rfl rfl (by kernel_rfl)
def Zf:List T:=[(T.sl .any 20 (bl ([1,0,2]++o 17 0)))]
def Zg:T:=(T.sl (.own 0 5) 64 (bl ([1,0,2]++o 57 0++[4,0,236,0])))
theorem ahr:Ev E bR Zf Zg:=aT (fn:=j8) [(ea,B0,B3),(ea,Gb,Gc),(ea,KR,KS),(ea,Tl,Tm)] 200 ⟨F8,KM,Ti,ae9,trivial⟩ rfl (by decide) rfl rfl (by kernel_rfl)
def Zh:List T:=[(T.agg [(i 1),(i 0),(i 2),(i 0),(i 0),(i 0),(i 0),(i 0),(i 0),(i 0)])]
def Zi:T:=(T.sl (.own 0 5) 64 (bl ([1,0,2]++o 57 0++[4,0,236,0])))
theorem ahs:Ev E cY Zh Zi:=aT (fn:=ig) [(bR,B5,B6),(bR,Fm,Fo),(bR,Jw,Jx),(bR,Zf,Zg)] 200 ⟨Fl,Jv,PS,ahr,trivial⟩ rfl (by decide) rfl rfl (by kernel_rfl)
def Zj:List T:=[(T.agg [(i 1),(i 5),(i 6),(i 5)]),(T.agg [(T.sl .any 5 [(i 1),(i 0),(i 2),(i 0),z0,z0,(i 0),(i 0),e0,(i 0),(i 0),(i 0),(i 0),(i 1),(i 0),(i 2),(i 0),z0,z0,(i 0),(i 0),e0,(i 0),(i 0),(i 0),(i 0),(i 1),(i 0),(i 2),(i 0),z0,z0,(i 0),(i 0),e0,(i 0),(i 0),(i 0),(i 0),(i 0),(i 0),(i 0),(i 0),z0,z0,(i 0),(i 0),e0,(i 0),(i 0),(i 0),(i 0),(i 0),(i 0),(i 0),(i 0),z0,z0,(i 0),(i 0),e0,(i 0),(i 0),(i 0),(i 0)])])]
def Zk:T:=(T.al [(T.sl (.own 0 5) 768 (bl (o 64 0++[1,0,2]++o 57 0++[4,0,236,0,1,0,2]++o 57 0++[4,0,236,0,1,0,2]++o 57 0++[4,0,236]++o 513 0))),(T.v (.bool true))])
theorem aht:Ev E mF Zj Zk:=aT (fn:=pE) [(kJ,KJ,KK),(cY,PQ,PR),(kJ,KN,KO),(cY,PT,PU),(cY,PV,PW),(cY,Zh,Zi)] 200 ⟨Tf,Za,Tg,Zb,Zc,ahs,trivial⟩ rfl (by decide) rfl rfl (by kernel_rfl)
def Zl:List T:=[(T.agg [(i 1),(i 5),(i 6),(i 5),(T.sl .any 5 [(i 1),(i 0),(i 2),(i 0),z0,z0,(i 0),(i 0),e0,(i 0),(i 0),(i 0),(i 0),(i 1),(i 0),(i 2),(i 0),z0,z0,(i 0),(i 0),e0,(i 0),(i 0),(i 0),(i 0),(i 1),(i 0),(i 2),(i 0),z0,z0,(i 0),(i 0),e0,(i 0),(i 0),(i 0),(i 0),(i 0),(i 0),(i 0),(i 0),z0,z0,(i 0),(i 0),e0,(i 0),(i 0),(i 0),(i 0),(i 0),(i 0),(i 0),(i 0),z0,z0,(i 0),(i 0),e0,(i 0),(i 0),(i 0),(i 0)]),(T.sl .any 1 [(T.sl .any 5 [(i 1),(i 0),(i 2),(i 0),z0,(T.sl .any 1 [(i 0),(i 2),(T.v (.string ⟨#[97]⟩))]),(i 0),(i 0),e0,(i 0),(i 0),(i 0),(i 0),(i 2),(i 0),(i 1),(i 3),(T.sl .any 1 [(y 120)]),z0,(i 0),(i 0),e0,(i 0),(i 0),(i 0),(i 0),(i 0),(i 0),(i 0),(i 0),z0,z0,(i 0),(i 0),e0,(i 0),(i 0),(i 0),(i 0),(i 0),(i 0),(i 0),(i 0),z0,z0,(i 0),(i 0),e0,(i 0),(i 0),(i 0),(i 0),(i 0),(i 0),(i 0),(i 0),z0,z0,(i 0),(i 0),e0,(i 0),(i 0),(i 0),(i 0)])])])]
def Zm:T:=(T.al [(T.sl (.own 0 5) 1920 (bl ([82,84,66,76,1,1,5,6,5]++o 51 0++[71,1,111,74,3]++o 63 0++[1,0,2,0,0,0,0,0,0,0,1]++o 49 0++[5,0,30,1,2,0,1,0,3,0,0,0,1,0,2]++o 49 0++[10,0,46,2]++o 192 0++[2,0,1,97]++o 60 0++[120]++o 383 0++[1,0,2]++o 57 0++[4,0,236,0,1,0,2]++o 57 0++[4,0,236,0,1,0,2]++o 57 0++[4,0,236]++o 513 0++[74,82,78,76]++o 56 0++[55,1,18,71]++o 256 0))),(i 0)])
theorem ahu:Ev E xw Zl Zm:=aT (fn:=xF) [(mn,Y8,Y9),(mF,Zd,Ze),(mF,Zj,Zk)] 200 ⟨ahp,ahq,aht,trivial⟩ rfl (by decide) rfl rfl (by kernel_rfl)
def Zn:List T:=[(T.agg [(i 1),(i 5),(i 6),(i 5),(T.sl .any 5 [(i 1),(i 0),(i 2),(i 0),z0,z0,(i 0),(i 0),e0,(i 0),(i 0),(i 0),(i 0),(i 1),(i 0),(i 2),(i 0),z0,z0,(i 0),(i 0),e0,(i 0),(i 0),(i 0),(i 0),(i 1),(i 0),(i 2),(i 0),z0,z0,(i 0),(i 0),e0,(i 0),(i 0),(i 0),(i 0),(i 0),(i 0),(i 0),(i 0),z0,z0,(i 0),(i 0),e0,(i 0),(i 0),(i 0),(i 0),(i 0),(i 0),(i 0),(i 0),z0,z0,(i 0),(i 0),e0,(i 0),(i 0),(i 0),(i 0)]),(T.sl .any 1 [(T.sl .any 5 [(i 1),(i 0),(i 2),(i 0),z0,(T.sl .any 1 [(i 0),(i 2),(T.v (.string ⟨#[97]⟩))]),(i 0),(i 0),e0,(i 0),(i 0),(i 0),(i 0),(i 2),(i 0),(i 1),(i 3),(T.sl .any 1 [(y 120)]),z0,(i 0),(i 0),e0,(i 0),(i 0),(i 0),(i 0),(i 0),(i 0),(i 0),(i 0),z0,z0,(i 0),(i 0),e0,(i 0),(i 0),(i 0),(i 0),(i 0),(i 0),(i 0),(i 0),z0,z0,(i 0),(i 0),e0,(i 0),(i 0),(i 0),(i 0),(i 0),(i 0),(i 0),(i 0),z0,z0,(i 0),(i 0),e0,(i 0),(i 0),(i 0),(i 0)])])])]
def Zo:T:=(T.sl (.own 0 5) 1920 (bl ([82,84,66,76,1,1,5,6,5]++o 51 0++[71,1,111,74,3]++o 63 0++[1,0,2,0,0,0,0,0,0,0,1]++o 49 0++[5,0,30,1,2,0,1,0,3,0,0,0,1,0,2]++o 49 0++[10,0,46,2]++o 192 0++[2,0,1,97]++o 60 0++[120]++o 383 0++[1,0,2]++o 57 0++[4,0,236,0,1,0,2]++o 57 0++[4,0,236,0,1,0,2]++o 57 0++[4,0,236]++o 513 0++[74,82,78,76]++o 56 0++[55,1,18,71]++o 256 0)))
theorem ahv:Ev E xt Zn Zo:=aT (fn:=xE) [(xw,Zl,Zm)] 200 ⟨ahu,trivial⟩ rfl (by decide) rfl rfl (by kernel_rfl)
def Zp:List T:=[(T.agg [(i 1),(i 5),(i 6),(i 5)]),(T.sl .any 1920 (bl ([82,84,66,76,1,1,5,6,5]++o 51 0++[71,1,111,74,3]++o 63 0++[1,0,2,0,0,0,0,0,0,0,1]++o 49 0++[5,0,30,1,2,0,1,0,3,0,0,0,1,0,2]++o 49 0++[10,0,46,2]++o 192 0++[2,0,1,97]++o 60 0++[120]++o 383 0++[1,0,2]++o 57 0++[4,0,236,0,1,0,2]++o 57 0++[4,0,236,0,1,0,2]++o 57 0++[4,0,236]++o 513 0++[74,82,78,76]++o 56 0++[55,1,18,71]++o 256 0))),(i 1)]
def Zq:T:=(T.sl (.own 0 37) 12 [(T.sl .any 64 (bl ([3]++o 63 0))),(T.sl .any 64 (bl ([1,0,2,0,0,0,0,0,0,0,1]++o 49 0++[5,0,30,1]))),(T.sl .any 64 (bl ([2,0,1,0,3,0,0,0,1,0,2]++o 49 0++[10,0,46,2]))),(T.sl .any 64 (bl (o 64 0))),(T.sl .any 64 (bl (o 64 0))),(T.sl .any 64 (bl (o 64 0))),(T.sl .any 64 (bl ([2,0,1,97]++o 60 0))),(T.sl .any 64 (bl ([120]++o 63 0))),(T.sl .any 64 (bl (o 64 0))),(T.sl .any 64 (bl (o 64 0))),(T.sl .any 64 (bl (o 64 0))),(T.sl .any 64 (bl (o 64 0)))])
theorem ahw:Ev E lG Zp Zq:=aT (fn:=lM) [] 200 trivial rfl (by decide) rfl rfl (by kernel_rfl)
def Jy:List T:=[(T.sl .any 64 (bl ([1,0,2,0,0,0,0,0,0,0,1]++o 49 0++[5,0,30,1])))]
def Jz:T:=(T.agg [(i 1),(i 0),(i 2),(i 0),(i 0),(i 1),(i 0),(i 0),(i 0),(i 0)])
theorem PX:Ev E fk Jy Jz:=aT (fn:=lN) [] 200 trivial rfl (by decide) rfl rfl (by kernel_rfl)
def KT:List T:=[(T.sl .any 60 (bl ([1,0,2,0,0,0,0,0,0,0,1]++o 49 0)))]
def KU:T:=(i 18743301)
theorem Tn:Ev E pO KT KU:=aT (fn:=vB) [] 200 trivial rfl (by decide) rfl rfl (by kernel_rfl)
def JA:List T:=[(T.sl .any 20 (bl ([1,0,2,0,0,0,0,0,0,0,1]++o 9 0)))]
def JB:T:=(T.sl (.own 0 5) 64 (bl ([1,0,2,0,0,0,0,0,0,0,1]++o 49 0++[5,0,30,1])))
theorem PY:Ev E jg JA JB:=aT (fn:=qS) [(pO,KT,KU)] 200 ⟨Tn,trivial⟩ rfl (by decide) rfl rfl (by kernel_rfl)
def JC:List T:=[(T.agg [(i 1),(i 0),(i 2),(i 0),(i 0),(i 1),(i 0),(i 0),(i 0),(i 0)])]
def JD:T:=(T.al [(T.sl (.own 0 5) 64 (bl ([1,0,2,0,0,0,0,0,0,0,1]++o 49 0++[5,0,30,1]))),(i 0)])
theorem PZ:Ev E gi JC JD:=aT (fn:=jT) [(jg,JA,JB)] 200 ⟨PY,trivial⟩ rfl (by decide) rfl rfl (by kernel_rfl)
def Zr:List T:=[(T.sl .any 64 (bl ([1,0,2,0,0,0,0,0,0,0,1]++o 49 0++[5,0,30,1])))]
def Zs:T:=(T.al [(T.agg [(i 1),(i 0),(i 2),(i 0),(i 0),(i 1),(i 0),(i 0),(i 0),(i 0)]),(T.v (.bool true))])
theorem ahx:Ev E jQ Zr Zs:=aT (fn:=jS) [(fk,Jy,Jz),(gi,JC,JD)] 200 ⟨PX,PZ,trivial⟩ rfl (by decide) rfl rfl (by kernel_rfl)
def P4:List T:=[(T.sl .any 64 (bl ([2,0,1,0,3,0,0,0,1,0,2]++o 49 0++[10,0,46,2])))]
def P5:T:=(T.agg [(i 2),(i 0),(i 1),(i 3),(i 1),(i 2),(i 0),(i 0),(i 0),(i 0)])
theorem Zt:Ev E fk P4 P5:=aT (fn:=lN) [] 200 trivial rfl (by decide) rfl rfl (by kernel_rfl)
def To:List T:=[(T.sl .any 60 (bl ([2,0,1,0,3,0,0,0,1,0,2]++o 49 0)))]
def Tp:T:=(i 36569098)
theorem afa:Ev E pO To Tp:=aT (fn:=vB) [] 200 trivial rfl (by decide) rfl rfl (by kernel_rfl)
def P6:List T:=[(T.sl .any 20 (bl ([2,0,1,0,3,0,0,0,1,0,2]++o 9 0)))]
def P7:T:=(T.sl (.own 0 5) 64 (bl ([2,0,1,0,3,0,0,0,1,0,2]++o 49 0++[10,0,46,2])))
theorem Zu:Ev E jg P6 P7:=aT (fn:=qS) [(pO,KT,KU),(pO,To,Tp)] 200 ⟨Tn,afa,trivial⟩ rfl (by decide) rfl rfl (by kernel_rfl)
def P8:List T:=[(T.agg [(i 2),(i 0),(i 1),(i 3),(i 1),(i 2),(i 0),(i 0),(i 0),(i 0)])]
def P9:T:=(T.al [(T.sl (.own 0 5) 64 (bl ([2,0,1,0,3,0,0,0,1,0,2]++o 49 0++[10,0,46,2]))),(i 0)])
theorem Zv:Ev E gi P8 P9:=aT (fn:=jT) [(jg,JA,JB),(jg,P6,P7)] 200 ⟨PY,Zu,trivial⟩ rfl (by decide) rfl rfl (by kernel_rfl)
def Zw:List T:=[(T.sl .any 64 (bl ([2,0,1,0,3,0,0,0,1,0,2]++o 49 0++[10,0,46,2])))]
def Zx:T:=(T.al [(T.agg [(i 2),(i 0),(i 1),(i 3),(i 1),(i 2),(i 0),(i 0),(i 0),(i 0)]),(T.v (.bool true))])
theorem ahy:Ev E jQ Zw Zx:=aT (fn:=jS) [(fk,Jy,Jz),(gi,JC,JD),(fk,P4,P5),(gi,P8,P9)] 200 ⟨PX,PZ,Zt,Zv,trivial⟩ rfl (by decide) rfl rfl (by kernel_rfl)
def Zy:List T:=[(T.sl .any 64 (bl (o 64 0)))]
def ZA:T:=(T.agg [(i 0),(i 0),(i 0),(i 0),(i 0),(i 0),(i 0),(i 0),(i 0),(i 0)])
theorem ahz:Ev E fk Zy ZA:=aT (fn:=lN) [] 200 trivial rfl (by decide) rfl rfl (by kernel_rfl)
def ZB:List T:=[(T.agg [(i 0),(i 0),(i 0),(i 0),(i 0),(i 0),(i 0),(i 0),(i 0),(i 0)])]
def ZC:T:=(T.al [(T.sl (.own 0 5) 64 (bl (o 64 0))),(i 0)])
theorem ahA:Ev E gi ZB ZC:=aT (fn:=jT) [(jg,JA,JB),(jg,P6,P7)] 200 ⟨PY,Zu,trivial⟩ rfl (by decide) rfl rfl (by kernel_rfl)
def ZD:List T:=[(T.sl .any 64 (bl (o 64 0)))]
def ZE:T:=(T.al [(T.agg [(i 0),(i 0),(i 0),(i 0),(i 0),(i 0),(i 0),(i 0),(i 0),(i 0)]),(T.v (.bool true))])
theorem ahB:Ev E jQ ZD ZE:=aT (fn:=jS) [(fk,Jy,Jz),(gi,JC,JD),(fk,P4,P5),(gi,P8,P9),(fk,Zy,ZA),(gi,ZB,ZC)] 200 ⟨PX,PZ,Zt,Zv,ahz,ahA,trivial⟩ rfl (by decide) rfl rfl (by kernel_rfl)
def Vs:List T:=[(T.agg [(i 1),(i 5),(i 6),(i 5)]),(T.sl .any 12 [(T.sl .any 64 (bl ([3]++o 63 0))),(T.sl .any 64 (bl ([1,0,2,0,0,0,0,0,0,0,1]++o 49 0++[5,0,30,1]))),(T.sl .any 64 (bl ([2,0,1,0,3,0,0,0,1,0,2]++o 49 0++[10,0,46,2]))),(T.sl .any 64 (bl (o 64 0))),(T.sl .any 64 (bl (o 64 0))),(T.sl .any 64 (bl (o 64 0))),(T.sl .any 64 (bl ([2,0,1,97]++o 60 0))),(T.sl .any 64 (bl ([120]++o 63 0))),(T.sl .any 64 (bl (o 64 0))),(T.sl .any 64 (bl (o 64 0))),(T.sl .any 64 (bl (o 64 0))),(T.sl .any 64 (bl (o 64 0)))])]
def Vt:T:=(T.al [(T.sl (.own 0 34) 5 [(i 1),(i 0),(i 2),(i 0),(i 0),(i 1),(i 0),(i 0),(i 0),(i 0),(i 2),(i 0),(i 1),(i 3),(i 1),(i 2),(i 0),(i 0),(i 0),(i 0),(i 0),(i 0),(i 0),(i 0),(i 0),(i 0),(i 0),(i 0),(i 0),(i 0),(i 0),(i 0),(i 0),(i 0),(i 0),(i 0),(i 0),(i 0),(i 0),(i 0),(i 0),(i 0),(i 0),(i 0),(i 0),(i 0),(i 0),(i 0),(i 0),(i 0)]),(T.sl .nil 0 [])])
theorem adI:Ev E gH Vs Vt:=aT (fn:=ky) [(jQ,Zr,Zs),(jQ,Zw,Zx),(jQ,ZD,ZE)] 200 ⟨ahx,ahy,ahB,trivial⟩ rfl (by decide) rfl rfl (by kernel_rfl)
def ZF:List T:=[(T.sl .any 5 [(i 1),(i 0),(i 2),(i 0),(i 0),(i 1),(i 0),(i 0),(i 0),(i 0),(i 2),(i 0),(i 1),(i 3),(i 1),(i 2),(i 0),(i 0),(i 0),(i 0),(i 0),(i 0),(i 0),(i 0),(i 0),(i 0),(i 0),(i 0),(i 0),(i 0),(i 0),(i 0),(i 0),(i 0),(i 0),(i 0),(i 0),(i 0),(i 0),(i 0),(i 0),(i 0),(i 0),(i 0),(i 0),(i 0),(i 0),(i 0),(i 0),(i 0)]),(i 6)]
def ZG:T:=(T.sl .nil 0 [])
theorem ahC:Ev E rP ZF ZG:=aT (fn:=rW) [] 200 trivial rfl (by decide) rfl rfl (by kernel_rfl)
def Qa:List T:=[(T.agg [(i 1),(i 5),(i 6),(i 5),(T.sl .any 12 [(T.sl .any 64 (bl ([3]++o 63 0))),(T.sl .any 64 (bl ([1,0,2,0,0,0,0,0,0,0,1]++o 49 0++[5,0,30,1]))),(T.sl .any 64 (bl ([2,0,1,0,3,0,0,0,1,0,2]++o 49 0++[10,0,46,2]))),(T.sl .any 64 (bl (o 64 0))),(T.sl .any 64 (bl (o 64 0))),(T.sl .any 64 (bl (o 64 0))),(T.sl .any 64 (bl ([2,0,1,97]++o 60 0))),(T.sl .any 64 (bl ([120]++o 63 0))),(T.sl .any 64 (bl (o 64 0))),(T.sl .any 64 (bl (o 64 0))),(T.sl .any 64 (bl (o 64 0))),(T.sl .any 64 (bl (o 64 0)))]),(T.sl .any 5 [(i 1),(i 0),(i 2),(i 0),(i 0),(i 1),(i 0),(i 0),(i 0),(i 0),(i 2),(i 0),(i 1),(i 3),(i 1),(i 2),(i 0),(i 0),(i 0),(i 0),(i 0),(i 0),(i 0),(i 0),(i 0),(i 0),(i 0),(i 0),(i 0),(i 0),(i 0),(i 0),(i 0),(i 0),(i 0),(i 0),(i 0),(i 0),(i 0),(i 0),(i 0),(i 0),(i 0),(i 0),(i 0),(i 0),(i 0),(i 0),(i 0),(i 0)])]),(i 1)]
def Qb:T:=(T.sl .nil 0 [])
theorem ZH:Ev E aP Qa Qb:=aT (fn:=bX) [] 200 trivial rfl (by decide) rfl rfl (by kernel_rfl)
def qH:List T:=[(T.agg [(i 1),(i 5),(i 6),(i 5),(T.sl .any 12 [(T.sl .any 64 (bl ([3]++o 63 0))),(T.sl .any 64 (bl ([1,0,2,0,0,0,0,0,0,0,1]++o 49 0++[5,0,30,1]))),(T.sl .any 64 (bl ([2,0,1,0,3,0,0,0,1,0,2]++o 49 0++[10,0,46,2]))),(T.sl .any 64 (bl (o 64 0))),(T.sl .any 64 (bl (o 64 0))),(T.sl .any 64 (bl (o 64 0))),(T.sl .any 64 (bl ([2,0,1,97]++o 60 0))),(T.sl .any 64 (bl ([120]++o 63 0))),(T.sl .any 64 (bl (o 64 0))),(T.sl .any 64 (bl (o 64 0))),(T.sl .any 64 (bl (o 64 0))),(T.sl .any 64 (bl (o 64 0)))]),(T.sl .any 5 [(i 1),(i 0),(i 2),(i 0),(i 0),(i 1),(i 0),(i 0),(i 0),(i 0),(i 2),(i 0),(i 1),(i 3),(i 1),(i 2),(i 0),(i 0),(i 0),(i 0),(i 0),(i 0),(i 0),(i 0),(i 0),(i 0),(i 0),(i 0),(i 0),(i 0),(i 0),(i 0),(i 0),(i 0),(i 0),(i 0),(i 0),(i 0),(i 0),(i 0),(i 0),(i 0),(i 0),(i 0),(i 0),(i 0),(i 0),(i 0),(i 0),(i 0)])]),(i 1),(i 4)]
def qI:T:=(T.al [(T.sl .nil 0 []),(T.v (.bool false))])
theorem sw:Ev E ab qH qI:=aT (fn:=aM) [] 200 trivial rfl (by decide) rfl rfl (by kernel_rfl)
def ZI:List T:=[(T.agg [(i 1),(i 5),(i 6),(i 5),(T.sl .any 12 [(T.sl .any 64 (bl ([3]++o 63 0))),(T.sl .any 64 (bl ([1,0,2,0,0,0,0,0,0,0,1]++o 49 0++[5,0,30,1]))),(T.sl .any 64 (bl ([2,0,1,0,3,0,0,0,1,0,2]++o 49 0++[10,0,46,2]))),(T.sl .any 64 (bl (o 64 0))),(T.sl .any 64 (bl (o 64 0))),(T.sl .any 64 (bl (o 64 0))),(T.sl .any 64 (bl ([2,0,1,97]++o 60 0))),(T.sl .any 64 (bl ([120]++o 63 0))),(T.sl .any 64 (bl (o 64 0))),(T.sl .any 64 (bl (o 64 0))),(T.sl .any 64 (bl (o 64 0))),(T.sl .any 64 (bl (o 64 0)))]),(T.sl .any 5 [(i 1),(i 0),(i 2),(i 0),(i 0),(i 1),(i 0),(i 0),(i 0),(i 0),(i 2),(i 0),(i 1),(i 3),(i 1),(i 2),(i 0),(i 0),(i 0),(i 0),(i 0),(i 0),(i 0),(i 0),(i 0),(i 0),(i 0),(i 0),(i 0),(i 0),(i 0),(i 0),(i 0),(i 0),(i 0),(i 0),(i 0),(i 0),(i 0),(i 0),(i 0),(i 0),(i 0),(i 0),(i 0),(i 0),(i 0),(i 0),(i 0),(i 0)])]),(i 1)]
def ZJ:T:=(T.al [(T.agg [(i 0),(i 0),e0,(i 0),(i 0),(i 0),(i 0)]),(T.v (.bool true))])
theorem ahD:Ev E bP ZI ZJ:=aT (fn:=cy) [(ab,qH,qI)] 200 ⟨sw,trivial⟩ rfl (by decide) rfl rfl (by kernel_rfl)
def sx:List T:=[(T.agg [(i 1),(i 5),(i 6),(i 5),(T.sl .any 12 [(T.sl .any 64 (bl ([3]++o 63 0))),(T.sl .any 64 (bl ([1,0,2,0,0,0,0,0,0,0,1]++o 49 0++[5,0,30,1]))),(T.sl .any 64 (bl ([2,0,1,0,3,0,0,0,1,0,2]++o 49 0++[10,0,46,2]))),(T.sl .any 64 (bl (o 64 0))),(T.sl .any 64 (bl (o 64 0))),(T.sl .any 64 (bl (o 64 0))),(T.sl .any 64 (bl ([2,0,1,97]++o 60 0))),(T.sl .any 64 (bl ([120]++o 63 0))),(T.sl .any 64 (bl (o 64 0))),(T.sl .any 64 (bl (o 64 0))),(T.sl .any 64 (bl (o 64 0))),(T.sl .any 64 (bl (o 64 0)))]),(T.sl .any 5 [(i 1),(i 0),(i 2),(i 0),(i 0),(i 1),(i 0),(i 0),(i 0),(i 0),(i 2),(i 0),(i 1),(i 3),(i 1),(i 2),(i 0),(i 0),(i 0),(i 0),(i 0),(i 0),(i 0),(i 0),(i 0),(i 0),(i 0),(i 0),(i 0),(i 0),(i 0),(i 0),(i 0),(i 0),(i 0),(i 0),(i 0),(i 0),(i 0),(i 0),(i 0),(i 0),(i 0),(i 0),(i 0),(i 0),(i 0),(i 0),(i 0),(i 0)])]),(i 1),(i 0)]
def sy:T:=(T.al [(T.sl .any 64 (bl ([2,0,1,97]++o 60 0))),(T.v (.bool true))])
theorem uY:Ev E ab sx sy:=aT (fn:=aM) [] 200 trivial rfl (by decide) rfl rfl (by kernel_rfl)
def B7:List T:=[(T.agg [(i 0),(i 2),(T.v (.string ⟨#[97]⟩))])]
def B9:T:=(T.al [(T.sl (.own 0 5) 16 (bl ([2,0,1,97]++o 12 0))),(i 0)])
theorem Gd:Ev E lr B7 B9:=aT (fn:=pd) [] 200 trivial rfl (by decide) rfl rfl (by kernel_rfl)
def ZK:List T:=[(T.sl .any 16 (bl ([2,0,1,97]++o 12 0))),(i 0)]
def ZL:T:=(T.al [(T.agg [(i 0),(i 2),(T.v (.string ⟨#[97]⟩))]),(T.v (.bool true)),(T.v (.bool true))])
theorem ahE:Ev E gP ZK ZL:=aT (fn:=jU) [(lr,B7,B9)] 200 ⟨Gd,trivial⟩ rfl (by decide) rfl rfl (by kernel_rfl)
def ZM:List T:=[(T.sl .any 16 (bl (o 16 0))),(i 1)]
def ZN:T:=(T.al [(T.agg [(i 0),(i 0),e0]),(T.v (.bool false)),(T.v (.bool true))])
theorem ahF:Ev E gP ZM ZN:=aT (fn:=jU) [(lr,B7,B9)] 200 ⟨Gd,trivial⟩ rfl (by decide) rfl rfl (by kernel_rfl)
def ZO:List T:=[(T.sl .any 16 (bl (o 16 0))),(i 2)]
def ZP:T:=(T.al [(T.agg [(i 0),(i 0),e0]),(T.v (.bool false)),(T.v (.bool true))])
theorem ahG:Ev E gP ZO ZP:=aT (fn:=jU) [(lr,B7,B9)] 200 ⟨Gd,trivial⟩ rfl (by decide) rfl rfl (by kernel_rfl)
def ZQ:List T:=[(T.sl .any 16 (bl (o 16 0))),(i 3)]
def ZR:T:=(T.al [(T.agg [(i 0),(i 0),e0]),(T.v (.bool false)),(T.v (.bool true))])
theorem ahH:Ev E gP ZQ ZR:=aT (fn:=jU) [(lr,B7,B9)] 200 ⟨Gd,trivial⟩ rfl (by decide) rfl rfl (by kernel_rfl)
def ZS:List T:=[(T.sl .any 64 (bl ([2,0,1,97]++o 60 0))),(i 0)]
def ZT:T:=(T.al [(T.sl (.own 0 105) 1 [(i 0),(i 2),(T.v (.string ⟨#[97]⟩))]),(T.sl .nil 0 [])])
theorem ahI:Ev E oO ZS ZT:=aT (fn:=oV) [(gP,ZK,ZL),(gP,ZM,ZN),(gP,ZO,ZP),(gP,ZQ,ZR)] 200 ⟨ahE,ahF,ahG,ahH,trivial⟩ rfl (by decide) rfl rfl (by kernel_rfl)
def sA:List T:=[(T.agg [(i 1),(i 5),(i 6),(i 5),(T.sl .any 12 [(T.sl .any 64 (bl ([3]++o 63 0))),(T.sl .any 64 (bl ([1,0,2,0,0,0,0,0,0,0,1]++o 49 0++[5,0,30,1]))),(T.sl .any 64 (bl ([2,0,1,0,3,0,0,0,1,0,2]++o 49 0++[10,0,46,2]))),(T.sl .any 64 (bl (o 64 0))),(T.sl .any 64 (bl (o 64 0))),(T.sl .any 64 (bl (o 64 0))),(T.sl .any 64 (bl ([2,0,1,97]++o 60 0))),(T.sl .any 64 (bl ([120]++o 63 0))),(T.sl .any 64 (bl (o 64 0))),(T.sl .any 64 (bl (o 64 0))),(T.sl .any 64 (bl (o 64 0))),(T.sl .any 64 (bl (o 64 0)))]),(T.sl .any 5 [(i 1),(i 0),(i 2),(i 0),(i 0),(i 1),(i 0),(i 0),(i 0),(i 0),(i 2),(i 0),(i 1),(i 3),(i 1),(i 2),(i 0),(i 0),(i 0),(i 0),(i 0),(i 0),(i 0),(i 0),(i 0),(i 0),(i 0),(i 0),(i 0),(i 0),(i 0),(i 0),(i 0),(i 0),(i 0),(i 0),(i 0),(i 0),(i 0),(i 0),(i 0),(i 0),(i 0),(i 0),(i 0),(i 0),(i 0),(i 0),(i 0),(i 0)])]),(i 1),(i 1)]
def sB:T:=(T.al [(T.sl .nil 0 []),(T.v (.bool false))])
theorem uZ:Ev E ab sA sB:=aT (fn:=aM) [] 200 trivial rfl (by decide) rfl rfl (by kernel_rfl)
def sC:List T:=[(T.agg [(i 1),(i 5),(i 6),(i 5),(T.sl .any 12 [(T.sl .any 64 (bl ([3]++o 63 0))),(T.sl .any 64 (bl ([1,0,2,0,0,0,0,0,0,0,1]++o 49 0++[5,0,30,1]))),(T.sl .any 64 (bl ([2,0,1,0,3,0,0,0,1,0,2]++o 49 0++[10,0,46,2]))),(T.sl .any 64 (bl (o 64 0))),(T.sl .any 64 (bl (o 64 0))),(T.sl .any 64 (bl (o 64 0))),(T.sl .any 64 (bl ([2,0,1,97]++o 60 0))),(T.sl .any 64 (bl ([120]++o 63 0))),(T.sl .any 64 (bl (o 64 0))),(T.sl .any 64 (bl (o 64 0))),(T.sl .any 64 (bl (o 64 0))),(T.sl .any 64 (bl (o 64 0)))]),(T.sl .any 5 [(i 1),(i 0),(i 2),(i 0),(i 0),(i 1),(i 0),(i 0),(i 0),(i 0),(i 2),(i 0),(i 1),(i 3),(i 1),(i 2),(i 0),(i 0),(i 0),(i 0),(i 0),(i 0),(i 0),(i 0),(i 0),(i 0),(i 0),(i 0),(i 0),(i 0),(i 0),(i 0),(i 0),(i 0),(i 0),(i 0),(i 0),(i 0),(i 0),(i 0),(i 0),(i 0),(i 0),(i 0),(i 0),(i 0),(i 0),(i 0),(i 0),(i 0)])]),(i 1),(i 2)]
def sD:T:=(T.al [(T.sl .nil 0 []),(T.v (.bool false))])
theorem u4:Ev E ab sC sD:=aT (fn:=aM) [] 200 trivial rfl (by decide) rfl rfl (by kernel_rfl)
def sE:List T:=[(T.agg [(i 1),(i 5),(i 6),(i 5),(T.sl .any 12 [(T.sl .any 64 (bl ([3]++o 63 0))),(T.sl .any 64 (bl ([1,0,2,0,0,0,0,0,0,0,1]++o 49 0++[5,0,30,1]))),(T.sl .any 64 (bl ([2,0,1,0,3,0,0,0,1,0,2]++o 49 0++[10,0,46,2]))),(T.sl .any 64 (bl (o 64 0))),(T.sl .any 64 (bl (o 64 0))),(T.sl .any 64 (bl (o 64 0))),(T.sl .any 64 (bl ([2,0,1,97]++o 60 0))),(T.sl .any 64 (bl ([120]++o 63 0))),(T.sl .any 64 (bl (o 64 0))),(T.sl .any 64 (bl (o 64 0))),(T.sl .any 64 (bl (o 64 0))),(T.sl .any 64 (bl (o 64 0)))]),(T.sl .any 5 [(i 1),(i 0),(i 2),(i 0),(i 0),(i 1),(i 0),(i 0),(i 0),(i 0),(i 2),(i 0),(i 1),(i 3),(i 1),(i 2),(i 0),(i 0),(i 0),(i 0),(i 0),(i 0),(i 0),(i 0),(i 0),(i 0),(i 0),(i 0),(i 0),(i 0),(i 0),(i 0),(i 0),(i 0),(i 0),(i 0),(i 0),(i 0),(i 0),(i 0),(i 0),(i 0),(i 0),(i 0),(i 0),(i 0),(i 0),(i 0),(i 0),(i 0)])]),(i 1),(i 3)]
def sF:T:=(T.al [(T.sl .nil 0 []),(T.v (.bool false))])
theorem u5:Ev E ab sE sF:=aT (fn:=aM) [] 200 trivial rfl (by decide) rfl rfl (by kernel_rfl)
def ZU:List T:=[(T.agg [(i 1),(i 5),(i 6),(i 5),(T.sl .any 12 [(T.sl .any 64 (bl ([3]++o 63 0))),(T.sl .any 64 (bl ([1,0,2,0,0,0,0,0,0,0,1]++o 49 0++[5,0,30,1]))),(T.sl .any 64 (bl ([2,0,1,0,3,0,0,0,1,0,2]++o 49 0++[10,0,46,2]))),(T.sl .any 64 (bl (o 64 0))),(T.sl .any 64 (bl (o 64 0))),(T.sl .any 64 (bl (o 64 0))),(T.sl .any 64 (bl ([2,0,1,97]++o 60 0))),(T.sl .any 64 (bl ([120]++o 63 0))),(T.sl .any 64 (bl (o 64 0))),(T.sl .any 64 (bl (o 64 0))),(T.sl .any 64 (bl (o 64 0))),(T.sl .any 64 (bl (o 64 0)))]),(T.sl .any 5 [(i 1),(i 0),(i 2),(i 0),(i 0),(i 1),(i 0),(i 0),(i 0),(i 0),(i 2),(i 0),(i 1),(i 3),(i 1),(i 2),(i 0),(i 0),(i 0),(i 0),(i 0),(i 0),(i 0),(i 0),(i 0),(i 0),(i 0),(i 0),(i 0),(i 0),(i 0),(i 0),(i 0),(i 0),(i 0),(i 0),(i 0),(i 0),(i 0),(i 0),(i 0),(i 0),(i 0),(i 0),(i 0),(i 0),(i 0),(i 0),(i 0),(i 0)])]),(i 1),(i 1)]
def ZV:T:=(T.al [(T.sl (.own 0 105) 1 [(i 0),(i 2),(T.v (.string ⟨#[97]⟩))]),(T.sl (.own 1 3) 0 [])])
theorem ahJ:Ev E gv ZU ZV:=aT (fn:=gx) [(ab,qH,qI),(ab,sx,sy),(oO,ZS,ZT),(ab,sA,sB),(ab,sC,sD),(ab,sE,sF)] 200 ⟨sw,uY,ahI,uZ,u4,u5,trivial⟩ rfl (by decide) rfl rfl (by kernel_rfl)
def u6:List T:=[(T.agg [(i 1),(i 5),(i 6),(i 5),(T.sl .any 12 [(T.sl .any 64 (bl ([3]++o 63 0))),(T.sl .any 64 (bl ([1,0,2,0,0,0,0,0,0,0,1]++o 49 0++[5,0,30,1]))),(T.sl .any 64 (bl ([2,0,1,0,3,0,0,0,1,0,2]++o 49 0++[10,0,46,2]))),(T.sl .any 64 (bl (o 64 0))),(T.sl .any 64 (bl (o 64 0))),(T.sl .any 64 (bl (o 64 0))),(T.sl .any 64 (bl ([2,0,1,97]++o 60 0))),(T.sl .any 64 (bl ([120]++o 63 0))),(T.sl .any 64 (bl (o 64 0))),(T.sl .any 64 (bl (o 64 0))),(T.sl .any 64 (bl (o 64 0))),(T.sl .any 64 (bl (o 64 0)))]),(T.sl .any 5 [(i 1),(i 0),(i 2),(i 0),(i 0),(i 1),(i 0),(i 0),(i 0),(i 0),(i 2),(i 0),(i 1),(i 3),(i 1),(i 2),(i 0),(i 0),(i 0),(i 0),(i 0),(i 0),(i 0),(i 0),(i 0),(i 0),(i 0),(i 0),(i 0),(i 0),(i 0),(i 0),(i 0),(i 0),(i 0),(i 0),(i 0),(i 0),(i 0),(i 0),(i 0),(i 0),(i 0),(i 0),(i 0),(i 0),(i 0),(i 0),(i 0),(i 0)])]),(i 2),(i 0)]
def u7:T:=(T.al [(T.sl .any 64 (bl ([120]++o 63 0))),(T.v (.bool true))])
theorem xh:Ev E ab u6 u7:=aT (fn:=aM) [] 200 trivial rfl (by decide) rfl rfl (by kernel_rfl)
def u9:List T:=[(T.agg [(i 1),(i 5),(i 6),(i 5),(T.sl .any 12 [(T.sl .any 64 (bl ([3]++o 63 0))),(T.sl .any 64 (bl ([1,0,2,0,0,0,0,0,0,0,1]++o 49 0++[5,0,30,1]))),(T.sl .any 64 (bl ([2,0,1,0,3,0,0,0,1,0,2]++o 49 0++[10,0,46,2]))),(T.sl .any 64 (bl (o 64 0))),(T.sl .any 64 (bl (o 64 0))),(T.sl .any 64 (bl (o 64 0))),(T.sl .any 64 (bl ([2,0,1,97]++o 60 0))),(T.sl .any 64 (bl ([120]++o 63 0))),(T.sl .any 64 (bl (o 64 0))),(T.sl .any 64 (bl (o 64 0))),(T.sl .any 64 (bl (o 64 0))),(T.sl .any 64 (bl (o 64 0)))]),(T.sl .any 5 [(i 1),(i 0),(i 2),(i 0),(i 0),(i 1),(i 0),(i 0),(i 0),(i 0),(i 2),(i 0),(i 1),(i 3),(i 1),(i 2),(i 0),(i 0),(i 0),(i 0),(i 0),(i 0),(i 0),(i 0),(i 0),(i 0),(i 0),(i 0),(i 0),(i 0),(i 0),(i 0),(i 0),(i 0),(i 0),(i 0),(i 0),(i 0),(i 0),(i 0),(i 0),(i 0),(i 0),(i 0),(i 0),(i 0),(i 0),(i 0),(i 0),(i 0)])]),(i 2),(i 1)]
def va:T:=(T.al [(T.sl .nil 0 []),(T.v (.bool false))])
theorem xi:Ev E ab u9 va:=aT (fn:=aM) [] 200 trivial rfl (by decide) rfl rfl (by kernel_rfl)
def vb:List T:=[(T.agg [(i 1),(i 5),(i 6),(i 5),(T.sl .any 12 [(T.sl .any 64 (bl ([3]++o 63 0))),(T.sl .any 64 (bl ([1,0,2,0,0,0,0,0,0,0,1]++o 49 0++[5,0,30,1]))),(T.sl .any 64 (bl ([2,0,1,0,3,0,0,0,1,0,2]++o 49 0++[10,0,46,2]))),(T.sl .any 64 (bl (o 64 0))),(T.sl .any 64 (bl (o 64 0))),(T.sl .any 64 (bl (o 64 0))),(T.sl .any 64 (bl ([2,0,1,97]++o 60 0))),(T.sl .any 64 (bl ([120]++o 63 0))),(T.sl .any 64 (bl (o 64 0))),(T.sl .any 64 (bl (o 64 0))),(T.sl .any 64 (bl (o 64 0))),(T.sl .any 64 (bl (o 64 0)))]),(T.sl .any 5 [(i 1),(i 0),(i 2),(i 0),(i 0),(i 1),(i 0),(i 0),(i 0),(i 0),(i 2),(i 0),(i 1),(i 3),(i 1),(i 2),(i 0),(i 0),(i 0),(i 0),(i 0),(i 0),(i 0),(i 0),(i 0),(i 0),(i 0),(i 0),(i 0),(i 0),(i 0),(i 0),(i 0),(i 0),(i 0),(i 0),(i 0),(i 0),(i 0),(i 0),(i 0),(i 0),(i 0),(i 0),(i 0),(i 0),(i 0),(i 0),(i 0),(i 0)])]),(i 2),(i 2)]
def vc:T:=(T.al [(T.sl .nil 0 []),(T.v (.bool false))])
theorem xj:Ev E ab vb vc:=aT (fn:=aM) [] 200 trivial rfl (by decide) rfl rfl (by kernel_rfl)
def vd:List T:=[(T.agg [(i 1),(i 5),(i 6),(i 5),(T.sl .any 12 [(T.sl .any 64 (bl ([3]++o 63 0))),(T.sl .any 64 (bl ([1,0,2,0,0,0,0,0,0,0,1]++o 49 0++[5,0,30,1]))),(T.sl .any 64 (bl ([2,0,1,0,3,0,0,0,1,0,2]++o 49 0++[10,0,46,2]))),(T.sl .any 64 (bl (o 64 0))),(T.sl .any 64 (bl (o 64 0))),(T.sl .any 64 (bl (o 64 0))),(T.sl .any 64 (bl ([2,0,1,97]++o 60 0))),(T.sl .any 64 (bl ([120]++o 63 0))),(T.sl .any 64 (bl (o 64 0))),(T.sl .any 64 (bl (o 64 0))),(T.sl .any 64 (bl (o 64 0))),(T.sl .any 64 (bl (o 64 0)))]),(T.sl .any 5 [(i 1),(i 0),(i 2),(i 0),(i 0),(i 1),(i 0),(i 0),(i 0),(i 0),(i 2),(i 0),(i 1),(i 3),(i 1),(i 2),(i 0),(i 0),(i 0),(i 0),(i 0),(i 0),(i 0),(i 0),(i 0),(i 0),(i 0),(i 0),(i 0),(i 0),(i 0),(i 0),(i 0),(i 0),(i 0),(i 0),(i 0),(i 0),(i 0),(i 0),(i 0),(i 0),(i 0),(i 0),(i 0),(i 0),(i 0),(i 0),(i 0),(i 0)])]),(i 2),(i 3)]
def ve:T:=(T.al [(T.sl .nil 0 []),(T.v (.bool false))])
theorem xk:Ev E ab vd ve:=aT (fn:=aM) [] 200 trivial rfl (by decide) rfl rfl (by kernel_rfl)
def Qc:List T:=[(T.agg [(i 1),(i 5),(i 6),(i 5),(T.sl .any 12 [(T.sl .any 64 (bl ([3]++o 63 0))),(T.sl .any 64 (bl ([1,0,2,0,0,0,0,0,0,0,1]++o 49 0++[5,0,30,1]))),(T.sl .any 64 (bl ([2,0,1,0,3,0,0,0,1,0,2]++o 49 0++[10,0,46,2]))),(T.sl .any 64 (bl (o 64 0))),(T.sl .any 64 (bl (o 64 0))),(T.sl .any 64 (bl (o 64 0))),(T.sl .any 64 (bl ([2,0,1,97]++o 60 0))),(T.sl .any 64 (bl ([120]++o 63 0))),(T.sl .any 64 (bl (o 64 0))),(T.sl .any 64 (bl (o 64 0))),(T.sl .any 64 (bl (o 64 0))),(T.sl .any 64 (bl (o 64 0)))]),(T.sl .any 5 [(i 1),(i 0),(i 2),(i 0),(i 0),(i 1),(i 0),(i 0),(i 0),(i 0),(i 2),(i 0),(i 1),(i 3),(i 1),(i 2),(i 0),(i 0),(i 0),(i 0),(i 0),(i 0),(i 0),(i 0),(i 0),(i 0),(i 0),(i 0),(i 0),(i 0),(i 0),(i 0),(i 0),(i 0),(i 0),(i 0),(i 0),(i 0),(i 0),(i 0),(i 0),(i 0),(i 0),(i 0),(i 0),(i 0),(i 0),(i 0),(i 0),(i 0)])]),(i 2)]
def Qd:T:=(T.sl .any 1 [(y 120)])
theorem ZW:Ev E aP Qc Qd:=aT (fn:=bX) [(ab,qH,qI),(ab,sx,sy),(ab,sA,sB),(ab,sC,sD),(ab,sE,sF),(ab,u6,u7),(ab,u9,va),(ab,vb,vc),(ab,vd,ve)] 200 ⟨sw,uY,uZ,u4,u5,xh,xi,xj,xk,trivial⟩ rfl (by decide) rfl rfl (by kernel_rfl)
def xl:List T:=[(T.agg [(i 1),(i 5),(i 6),(i 5),(T.sl .any 12 [(T.sl .any 64 (bl ([3]++o 63 0))),(T.sl .any 64 (bl ([1,0,2,0,0,0,0,0,0,0,1]++o 49 0++[5,0,30,1]))),(T.sl .any 64 (bl ([2,0,1,0,3,0,0,0,1,0,2]++o 49 0++[10,0,46,2]))),(T.sl .any 64 (bl (o 64 0))),(T.sl .any 64 (bl (o 64 0))),(T.sl .any 64 (bl (o 64 0))),(T.sl .any 64 (bl ([2,0,1,97]++o 60 0))),(T.sl .any 64 (bl ([120]++o 63 0))),(T.sl .any 64 (bl (o 64 0))),(T.sl .any 64 (bl (o 64 0))),(T.sl .any 64 (bl (o 64 0))),(T.sl .any 64 (bl (o 64 0)))]),(T.sl .any 5 [(i 1),(i 0),(i 2),(i 0),(i 0),(i 1),(i 0),(i 0),(i 0),(i 0),(i 2),(i 0),(i 1),(i 3),(i 1),(i 2),(i 0),(i 0),(i 0),(i 0),(i 0),(i 0),(i 0),(i 0),(i 0),(i 0),(i 0),(i 0),(i 0),(i 0),(i 0),(i 0),(i 0),(i 0),(i 0),(i 0),(i 0),(i 0),(i 0),(i 0),(i 0),(i 0),(i 0),(i 0),(i 0),(i 0),(i 0),(i 0),(i 0),(i 0)])]),(i 2),(i 4)]
def xm:T:=(T.al [(T.sl .nil 0 []),(T.v (.bool false))])
theorem zz:Ev E ab xl xm:=aT (fn:=aM) [] 200 trivial rfl (by decide) rfl rfl (by kernel_rfl)
def ZX:List T:=[(T.agg [(i 1),(i 5),(i 6),(i 5),(T.sl .any 12 [(T.sl .any 64 (bl ([3]++o 63 0))),(T.sl .any 64 (bl ([1,0,2,0,0,0,0,0,0,0,1]++o 49 0++[5,0,30,1]))),(T.sl .any 64 (bl ([2,0,1,0,3,0,0,0,1,0,2]++o 49 0++[10,0,46,2]))),(T.sl .any 64 (bl (o 64 0))),(T.sl .any 64 (bl (o 64 0))),(T.sl .any 64 (bl (o 64 0))),(T.sl .any 64 (bl ([2,0,1,97]++o 60 0))),(T.sl .any 64 (bl ([120]++o 63 0))),(T.sl .any 64 (bl (o 64 0))),(T.sl .any 64 (bl (o 64 0))),(T.sl .any 64 (bl (o 64 0))),(T.sl .any 64 (bl (o 64 0)))]),(T.sl .any 5 [(i 1),(i 0),(i 2),(i 0),(i 0),(i 1),(i 0),(i 0),(i 0),(i 0),(i 2),(i 0),(i 1),(i 3),(i 1),(i 2),(i 0),(i 0),(i 0),(i 0),(i 0),(i 0),(i 0),(i 0),(i 0),(i 0),(i 0),(i 0),(i 0),(i 0),(i 0),(i 0),(i 0),(i 0),(i 0),(i 0),(i 0),(i 0),(i 0),(i 0),(i 0),(i 0),(i 0),(i 0),(i 0),(i 0),(i 0),(i 0),(i 0),(i 0)])]),(i 2)]
def ZY:T:=(T.al [(T.agg [(i 0),(i 0),e0,(i 0),(i 0),(i 0),(i 0)]),(T.v (.bool true))])
theorem ahK:Ev E bP ZX ZY:=aT (fn:=cy) [(ab,qH,qI),(ab,sx,sy),(ab,sA,sB),(ab,sC,sD),(ab,sE,sF),(ab,u6,u7),(ab,u9,va),(ab,vb,vc),(ab,vd,ve),(ab,xl,xm)] 200 ⟨sw,uY,uZ,u4,u5,xh,xi,xj,xk,zz,trivial⟩ rfl (by decide) rfl rfl (by kernel_rfl)
def Qe:List T:=[(T.agg [(i 1),(i 5),(i 6),(i 5),(T.sl .any 12 [(T.sl .any 64 (bl ([3]++o 63 0))),(T.sl .any 64 (bl ([1,0,2,0,0,0,0,0,0,0,1]++o 49 0++[5,0,30,1]))),(T.sl .any 64 (bl ([2,0,1,0,3,0,0,0,1,0,2]++o 49 0++[10,0,46,2]))),(T.sl .any 64 (bl (o 64 0))),(T.sl .any 64 (bl (o 64 0))),(T.sl .any 64 (bl (o 64 0))),(T.sl .any 64 (bl ([2,0,1,97]++o 60 0))),(T.sl .any 64 (bl ([120]++o 63 0))),(T.sl .any 64 (bl (o 64 0))),(T.sl .any 64 (bl (o 64 0))),(T.sl .any 64 (bl (o 64 0))),(T.sl .any 64 (bl (o 64 0)))]),(T.sl .any 5 [(i 1),(i 0),(i 2),(i 0),(i 0),(i 1),(i 0),(i 0),(i 0),(i 0),(i 2),(i 0),(i 1),(i 3),(i 1),(i 2),(i 0),(i 0),(i 0),(i 0),(i 0),(i 0),(i 0),(i 0),(i 0),(i 0),(i 0),(i 0),(i 0),(i 0),(i 0),(i 0),(i 0),(i 0),(i 0),(i 0),(i 0),(i 0),(i 0),(i 0),(i 0),(i 0),(i 0),(i 0),(i 0),(i 0),(i 0),(i 0),(i 0),(i 0)])]),(i 3)]
def Qf:T:=(T.sl .nil 0 [])
theorem ZZ:Ev E aP Qe Qf:=aT (fn:=bX) [(ab,qH,qI),(ab,sx,sy),(ab,sA,sB),(ab,sC,sD),(ab,sE,sF),(ab,u6,u7),(ab,u9,va),(ab,vb,vc),(ab,vd,ve),(ab,xl,xm)] 200 ⟨sw,uY,uZ,u4,u5,xh,xi,xj,xk,zz,trivial⟩ rfl (by decide) rfl rfl (by kernel_rfl)
def yC:List T:=[(T.agg [(i 1),(i 5),(i 6),(i 5),(T.sl .any 12 [(T.sl .any 64 (bl ([3]++o 63 0))),(T.sl .any 64 (bl ([1,0,2,0,0,0,0,0,0,0,1]++o 49 0++[5,0,30,1]))),(T.sl .any 64 (bl ([2,0,1,0,3,0,0,0,1,0,2]++o 49 0++[10,0,46,2]))),(T.sl .any 64 (bl (o 64 0))),(T.sl .any 64 (bl (o 64 0))),(T.sl .any 64 (bl (o 64 0))),(T.sl .any 64 (bl ([2,0,1,97]++o 60 0))),(T.sl .any 64 (bl ([120]++o 63 0))),(T.sl .any 64 (bl (o 64 0))),(T.sl .any 64 (bl (o 64 0))),(T.sl .any 64 (bl (o 64 0))),(T.sl .any 64 (bl (o 64 0)))]),(T.sl .any 5 [(i 1),(i 0),(i 2),(i 0),(i 0),(i 1),(i 0),(i 0),(i 0),(i 0),(i 2),(i 0),(i 1),(i 3),(i 1),(i 2),(i 0),(i 0),(i 0),(i 0),(i 0),(i 0),(i 0),(i 0),(i 0),(i 0),(i 0),(i 0),(i 0),(i 0),(i 0),(i 0),(i 0),(i 0),(i 0),(i 0),(i 0),(i 0),(i 0),(i 0),(i 0),(i 0),(i 0),(i 0),(i 0),(i 0),(i 0),(i 0),(i 0),(i 0)])]),(i 3),(i 4)]
def yD:T:=(T.al [(T.sl .nil 0 []),(T.v (.bool false))])
theorem Ca:Ev E ab yC yD:=aT (fn:=aM) [] 200 trivial rfl (by decide) rfl rfl (by kernel_rfl)
def Z0:List T:=[(T.agg [(i 1),(i 5),(i 6),(i 5),(T.sl .any 12 [(T.sl .any 64 (bl ([3]++o 63 0))),(T.sl .any 64 (bl ([1,0,2,0,0,0,0,0,0,0,1]++o 49 0++[5,0,30,1]))),(T.sl .any 64 (bl ([2,0,1,0,3,0,0,0,1,0,2]++o 49 0++[10,0,46,2]))),(T.sl .any 64 (bl (o 64 0))),(T.sl .any 64 (bl (o 64 0))),(T.sl .any 64 (bl (o 64 0))),(T.sl .any 64 (bl ([2,0,1,97]++o 60 0))),(T.sl .any 64 (bl ([120]++o 63 0))),(T.sl .any 64 (bl (o 64 0))),(T.sl .any 64 (bl (o 64 0))),(T.sl .any 64 (bl (o 64 0))),(T.sl .any 64 (bl (o 64 0)))]),(T.sl .any 5 [(i 1),(i 0),(i 2),(i 0),(i 0),(i 1),(i 0),(i 0),(i 0),(i 0),(i 2),(i 0),(i 1),(i 3),(i 1),(i 2),(i 0),(i 0),(i 0),(i 0),(i 0),(i 0),(i 0),(i 0),(i 0),(i 0),(i 0),(i 0),(i 0),(i 0),(i 0),(i 0),(i 0),(i 0),(i 0),(i 0),(i 0),(i 0),(i 0),(i 0),(i 0),(i 0),(i 0),(i 0),(i 0),(i 0),(i 0),(i 0),(i 0),(i 0)])]),(i 3)]
def Z1:T:=(T.al [(T.agg [(i 0),(i 0),e0,(i 0),(i 0),(i 0),(i 0)]),(T.v (.bool true))])
theorem ahL:Ev E bP Z0 Z1:=aT (fn:=cy) [(ab,qH,qI),(ab,sx,sy),(ab,sA,sB),(ab,sC,sD),(ab,sE,sF),(ab,u6,u7),(ab,u9,va),(ab,vb,vc),(ab,vd,ve),(ab,xl,xm),(ab,yC,yD)] 200 ⟨sw,uY,uZ,u4,u5,xh,xi,xj,xk,zz,Ca,trivial⟩ rfl (by decide) rfl rfl (by kernel_rfl)
def Qg:List T:=[(T.agg [(i 1),(i 5),(i 6),(i 5),(T.sl .any 12 [(T.sl .any 64 (bl ([3]++o 63 0))),(T.sl .any 64 (bl ([1,0,2,0,0,0,0,0,0,0,1]++o 49 0++[5,0,30,1]))),(T.sl .any 64 (bl ([2,0,1,0,3,0,0,0,1,0,2]++o 49 0++[10,0,46,2]))),(T.sl .any 64 (bl (o 64 0))),(T.sl .any 64 (bl (o 64 0))),(T.sl .any 64 (bl (o 64 0))),(T.sl .any 64 (bl ([2,0,1,97]++o 60 0))),(T.sl .any 64 (bl ([120]++o 63 0))),(T.sl .any 64 (bl (o 64 0))),(T.sl .any 64 (bl (o 64 0))),(T.sl .any 64 (bl (o 64 0))),(T.sl .any 64 (bl (o 64 0)))]),(T.sl .any 5 [(i 1),(i 0),(i 2),(i 0),(i 0),(i 1),(i 0),(i 0),(i 0),(i 0),(i 2),(i 0),(i 1),(i 3),(i 1),(i 2),(i 0),(i 0),(i 0),(i 0),(i 0),(i 0),(i 0),(i 0),(i 0),(i 0),(i 0),(i 0),(i 0),(i 0),(i 0),(i 0),(i 0),(i 0),(i 0),(i 0),(i 0),(i 0),(i 0),(i 0),(i 0),(i 0),(i 0),(i 0),(i 0),(i 0),(i 0),(i 0),(i 0),(i 0)])]),(i 4)]
def Qh:T:=(T.sl .nil 0 [])
theorem Z2:Ev E aP Qg Qh:=aT (fn:=bX) [(ab,qH,qI),(ab,sx,sy),(ab,sA,sB),(ab,sC,sD),(ab,sE,sF),(ab,u6,u7),(ab,u9,va),(ab,vb,vc),(ab,vd,ve),(ab,xl,xm),(ab,yC,yD)] 200 ⟨sw,uY,uZ,u4,u5,xh,xi,xj,xk,zz,Ca,trivial⟩ rfl (by decide) rfl rfl (by kernel_rfl)
def Ge:List T:=[(T.agg [(i 1),(i 5),(i 6),(i 5),(T.sl .any 12 [(T.sl .any 64 (bl ([3]++o 63 0))),(T.sl .any 64 (bl ([1,0,2,0,0,0,0,0,0,0,1]++o 49 0++[5,0,30,1]))),(T.sl .any 64 (bl ([2,0,1,0,3,0,0,0,1,0,2]++o 49 0++[10,0,46,2]))),(T.sl .any 64 (bl (o 64 0))),(T.sl .any 64 (bl (o 64 0))),(T.sl .any 64 (bl (o 64 0))),(T.sl .any 64 (bl ([2,0,1,97]++o 60 0))),(T.sl .any 64 (bl ([120]++o 63 0))),(T.sl .any 64 (bl (o 64 0))),(T.sl .any 64 (bl (o 64 0))),(T.sl .any 64 (bl (o 64 0))),(T.sl .any 64 (bl (o 64 0)))]),(T.sl .any 5 [(i 1),(i 0),(i 2),(i 0),(i 0),(i 1),(i 0),(i 0),(i 0),(i 0),(i 2),(i 0),(i 1),(i 3),(i 1),(i 2),(i 0),(i 0),(i 0),(i 0),(i 0),(i 0),(i 0),(i 0),(i 0),(i 0),(i 0),(i 0),(i 0),(i 0),(i 0),(i 0),(i 0),(i 0),(i 0),(i 0),(i 0),(i 0),(i 0),(i 0),(i 0),(i 0),(i 0),(i 0),(i 0),(i 0),(i 0),(i 0),(i 0),(i 0)])]),(i 4),(i 4)]
def Gf:T:=(T.al [(T.sl .nil 0 []),(T.v (.bool false))])
theorem KV:Ev E ab Ge Gf:=aT (fn:=aM) [] 200 trivial rfl (by decide) rfl rfl (by kernel_rfl)
def Z3:List T:=[(T.agg [(i 1),(i 5),(i 6),(i 5),(T.sl .any 12 [(T.sl .any 64 (bl ([3]++o 63 0))),(T.sl .any 64 (bl ([1,0,2,0,0,0,0,0,0,0,1]++o 49 0++[5,0,30,1]))),(T.sl .any 64 (bl ([2,0,1,0,3,0,0,0,1,0,2]++o 49 0++[10,0,46,2]))),(T.sl .any 64 (bl (o 64 0))),(T.sl .any 64 (bl (o 64 0))),(T.sl .any 64 (bl (o 64 0))),(T.sl .any 64 (bl ([2,0,1,97]++o 60 0))),(T.sl .any 64 (bl ([120]++o 63 0))),(T.sl .any 64 (bl (o 64 0))),(T.sl .any 64 (bl (o 64 0))),(T.sl .any 64 (bl (o 64 0))),(T.sl .any 64 (bl (o 64 0)))]),(T.sl .any 5 [(i 1),(i 0),(i 2),(i 0),(i 0),(i 1),(i 0),(i 0),(i 0),(i 0),(i 2),(i 0),(i 1),(i 3),(i 1),(i 2),(i 0),(i 0),(i 0),(i 0),(i 0),(i 0),(i 0),(i 0),(i 0),(i 0),(i 0),(i 0),(i 0),(i 0),(i 0),(i 0),(i 0),(i 0),(i 0),(i 0),(i 0),(i 0),(i 0),(i 0),(i 0),(i 0),(i 0),(i 0),(i 0),(i 0),(i 0),(i 0),(i 0),(i 0)])]),(i 4)]
def Z4:T:=(T.al [(T.agg [(i 0),(i 0),e0,(i 0),(i 0),(i 0),(i 0)]),(T.v (.bool true))])
theorem ahM:Ev E bP Z3 Z4:=aT (fn:=cy) [(ab,qH,qI),(ab,sx,sy),(ab,sA,sB),(ab,sC,sD),(ab,sE,sF),(ab,u6,u7),(ab,u9,va),(ab,vb,vc),(ab,vd,ve),(ab,xl,xm),(ab,yC,yD),(ab,Ge,Gf)] 200 ⟨sw,uY,uZ,u4,u5,xh,xi,xj,xk,zz,Ca,KV,trivial⟩ rfl (by decide) rfl rfl (by kernel_rfl)
def Qi:List T:=[(T.agg [(i 1),(i 5),(i 6),(i 5),(T.sl .any 12 [(T.sl .any 64 (bl ([3]++o 63 0))),(T.sl .any 64 (bl ([1,0,2,0,0,0,0,0,0,0,1]++o 49 0++[5,0,30,1]))),(T.sl .any 64 (bl ([2,0,1,0,3,0,0,0,1,0,2]++o 49 0++[10,0,46,2]))),(T.sl .any 64 (bl (o 64 0))),(T.sl .any 64 (bl (o 64 0))),(T.sl .any 64 (bl (o 64 0))),(T.sl .any 64 (bl ([2,0,1,97]++o 60 0))),(T.sl .any 64 (bl ([120]++o 63 0))),(T.sl .any 64 (bl (o 64 0))),(T.sl .any 64 (bl (o 64 0))),(T.sl .any 64 (bl (o 64 0))),(T.sl .any 64 (bl (o 64 0)))]),(T.sl .any 5 [(i 1),(i 0),(i 2),(i 0),(i 0),(i 1),(i 0),(i 0),(i 0),(i 0),(i 2),(i 0),(i 1),(i 3),(i 1),(i 2),(i 0),(i 0),(i 0),(i 0),(i 0),(i 0),(i 0),(i 0),(i 0),(i 0),(i 0),(i 0),(i 0),(i 0),(i 0),(i 0),(i 0),(i 0),(i 0),(i 0),(i 0),(i 0),(i 0),(i 0),(i 0),(i 0),(i 0),(i 0),(i 0),(i 0),(i 0),(i 0),(i 0),(i 0)])]),(i 5)]
def Qj:T:=(T.sl .nil 0 [])
theorem Z5:Ev E aP Qi Qj:=aT (fn:=bX) [(ab,qH,qI),(ab,sx,sy),(ab,sA,sB),(ab,sC,sD),(ab,sE,sF),(ab,u6,u7),(ab,u9,va),(ab,vb,vc),(ab,vd,ve),(ab,xl,xm),(ab,yC,yD),(ab,Ge,Gf)] 200 ⟨sw,uY,uZ,u4,u5,xh,xi,xj,xk,zz,Ca,KV,trivial⟩ rfl (by decide) rfl rfl (by kernel_rfl)
def Tq:List T:=[(T.agg [(i 1),(i 5),(i 6),(i 5),(T.sl .any 12 [(T.sl .any 64 (bl ([3]++o 63 0))),(T.sl .any 64 (bl ([1,0,2,0,0,0,0,0,0,0,1]++o 49 0++[5,0,30,1]))),(T.sl .any 64 (bl ([2,0,1,0,3,0,0,0,1,0,2]++o 49 0++[10,0,46,2]))),(T.sl .any 64 (bl (o 64 0))),(T.sl .any 64 (bl (o 64 0))),(T.sl .any 64 (bl (o 64 0))),(T.sl .any 64 (bl ([2,0,1,97]++o 60 0))),(T.sl .any 64 (bl ([120]++o 63 0))),(T.sl .any 64 (bl (o 64 0))),(T.sl .any 64 (bl (o 64 0))),(T.sl .any 64 (bl (o 64 0))),(T.sl .any 64 (bl (o 64 0)))]),(T.sl .any 5 [(i 1),(i 0),(i 2),(i 0),(i 0),(i 1),(i 0),(i 0),(i 0),(i 0),(i 2),(i 0),(i 1),(i 3),(i 1),(i 2),(i 0),(i 0),(i 0),(i 0),(i 0),(i 0),(i 0),(i 0),(i 0),(i 0),(i 0),(i 0),(i 0),(i 0),(i 0),(i 0),(i 0),(i 0),(i 0),(i 0),(i 0),(i 0),(i 0),(i 0),(i 0),(i 0),(i 0),(i 0),(i 0),(i 0),(i 0),(i 0),(i 0),(i 0)])]),(i 5),(i 4)]
def Tr:T:=(T.al [(T.sl .nil 0 []),(T.v (.bool false))])
theorem afb:Ev E ab Tq Tr:=aT (fn:=aM) [] 200 trivial rfl (by decide) rfl rfl (by kernel_rfl)
def Z6:List T:=[(T.agg [(i 1),(i 5),(i 6),(i 5),(T.sl .any 12 [(T.sl .any 64 (bl ([3]++o 63 0))),(T.sl .any 64 (bl ([1,0,2,0,0,0,0,0,0,0,1]++o 49 0++[5,0,30,1]))),(T.sl .any 64 (bl ([2,0,1,0,3,0,0,0,1,0,2]++o 49 0++[10,0,46,2]))),(T.sl .any 64 (bl (o 64 0))),(T.sl .any 64 (bl (o 64 0))),(T.sl .any 64 (bl (o 64 0))),(T.sl .any 64 (bl ([2,0,1,97]++o 60 0))),(T.sl .any 64 (bl ([120]++o 63 0))),(T.sl .any 64 (bl (o 64 0))),(T.sl .any 64 (bl (o 64 0))),(T.sl .any 64 (bl (o 64 0))),(T.sl .any 64 (bl (o 64 0)))]),(T.sl .any 5 [(i 1),(i 0),(i 2),(i 0),(i 0),(i 1),(i 0),(i 0),(i 0),(i 0),(i 2),(i 0),(i 1),(i 3),(i 1),(i 2),(i 0),(i 0),(i 0),(i 0),(i 0),(i 0),(i 0),(i 0),(i 0),(i 0),(i 0),(i 0),(i 0),(i 0),(i 0),(i 0),(i 0),(i 0),(i 0),(i 0),(i 0),(i 0),(i 0),(i 0),(i 0),(i 0),(i 0),(i 0),(i 0),(i 0),(i 0),(i 0),(i 0),(i 0)])]),(i 5)]
def Z7:T:=(T.al [(T.agg [(i 0),(i 0),e0,(i 0),(i 0),(i 0),(i 0)]),(T.v (.bool true))])
theorem ahN:Ev E bP Z6 Z7:=aT (fn:=cy) [(ab,qH,qI),(ab,sx,sy),(ab,sA,sB),(ab,sC,sD),(ab,sE,sF),(ab,u6,u7),(ab,u9,va),(ab,vb,vc),(ab,vd,ve),(ab,xl,xm),(ab,yC,yD),(ab,Ge,Gf),(ab,Tq,Tr)] 200 ⟨sw,uY,uZ,u4,u5,xh,xi,xj,xk,zz,Ca,KV,afb,trivial⟩ rfl (by decide) rfl rfl (by kernel_rfl)
def Z8:List T:=[(T.sl .any 4 [z0,z0,z0,z0])]
def Z9:T:=z0
theorem ahO:Ev E gw Z8 Z9:=aT (fn:=gy) [] 200 trivial rfl (by decide) rfl rfl (by kernel_rfl)
def aaa:List T:=[(T.agg [(i 1),(i 5),(i 6),(i 5)]),(T.sl .any 12 [(T.sl .any 64 (bl ([3]++o 63 0))),(T.sl .any 64 (bl ([1,0,2,0,0,0,0,0,0,0,1]++o 49 0++[5,0,30,1]))),(T.sl .any 64 (bl ([2,0,1,0,3,0,0,0,1,0,2]++o 49 0++[10,0,46,2]))),(T.sl .any 64 (bl (o 64 0))),(T.sl .any 64 (bl (o 64 0))),(T.sl .any 64 (bl (o 64 0))),(T.sl .any 64 (bl ([2,0,1,97]++o 60 0))),(T.sl .any 64 (bl ([120]++o 63 0))),(T.sl .any 64 (bl (o 64 0))),(T.sl .any 64 (bl (o 64 0))),(T.sl .any 64 (bl (o 64 0))),(T.sl .any 64 (bl (o 64 0)))]),(i 1),(i 1)]
def aab:T:=(T.al [(T.agg [(T.sl (.own 0 84) 5 [(i 1),(i 0),(i 2),(i 0),z0,(T.sl .any 1 [(i 0),(i 2),(T.v (.string ⟨#[97]⟩))]),(i 0),(i 0),e0,(i 0),(i 0),(i 0),(i 0),(i 2),(i 0),(i 1),(i 3),(T.sl .any 1 [(y 120)]),z0,(i 0),(i 0),e0,(i 0),(i 0),(i 0),(i 0),(i 0),(i 0),(i 0),(i 0),z0,z0,(i 0),(i 0),e0,(i 0),(i 0),(i 0),(i 0),(i 0),(i 0),(i 0),(i 0),z0,z0,(i 0),(i 0),e0,(i 0),(i 0),(i 0),(i 0),(i 0),(i 0),(i 0),(i 0),z0,z0,(i 0),(i 0),e0,(i 0),(i 0),(i 0),(i 0)])]),z0])
theorem ahP:Ev E je aaa aab:=aT (fn:=ec) [(gH,Vs,Vt),(rP,ZF,ZG),(aP,Qa,Qb),(bP,ZI,ZJ),(gv,ZU,ZV),(aP,Qc,Qd),(bP,ZX,ZY),(aP,Qe,Qf),(bP,Z0,Z1),(aP,Qg,Qh),(bP,Z3,Z4),(aP,Qi,Qj),(bP,Z6,Z7),(gw,Z8,Z9)] 200 ⟨adI,ahC,ZH,ahD,ahJ,ZW,ahK,ZZ,ahL,Z2,ahM,Z5,ahN,ahO,trivial⟩ rfl (by decide) rfl rfl (by kernel_rfl)
def aac:List T:=[(T.agg [(T.sl .any 5 [(i 1),(i 0),(i 2),(i 0),z0,(T.sl .any 1 [(i 0),(i 2),(T.v (.string ⟨#[97]⟩))]),(i 0),(i 0),e0,(i 0),(i 0),(i 0),(i 0),(i 2),(i 0),(i 1),(i 3),(T.sl .any 1 [(y 120)]),z0,(i 0),(i 0),e0,(i 0),(i 0),(i 0),(i 0),(i 0),(i 0),(i 0),(i 0),z0,z0,(i 0),(i 0),e0,(i 0),(i 0),(i 0),(i 0),(i 0),(i 0),(i 0),(i 0),z0,z0,(i 0),(i 0),e0,(i 0),(i 0),(i 0),(i 0),(i 0),(i 0),(i 0),(i 0),z0,z0,(i 0),(i 0),e0,(i 0),(i 0),(i 0),(i 0)])]),(T.agg [(T.sl .any 5 [(i 1),(i 0),(i 2),(i 0),z0,(T.sl .any 1 [(i 0),(i 2),(T.v (.string ⟨#[97]⟩))]),(i 0),(i 0),e0,(i 0),(i 0),(i 0),(i 0),(i 2),(i 0),(i 1),(i 3),(T.sl .any 1 [(y 120)]),z0,(i 0),(i 0),e0,(i 0),(i 0),(i 0),(i 0),(i 0),(i 0),(i 0),(i 0),z0,z0,(i 0),(i 0),e0,(i 0),(i 0),(i 0),(i 0),(i 0),(i 0),(i 0),(i 0),z0,z0,(i 0),(i 0),e0,(i 0),(i 0),(i 0),(i 0),(i 0),(i 0),(i 0),(i 0),z0,z0,(i 0),(i 0),e0,(i 0),(i 0),(i 0),(i 0)])])]
def aad:T:=(T.v (.bool true))
theorem ahQ:Ev E lF aac aad:=aT (fn:=pR) [] 200 trivial rfl (by decide) rfl rfl (by kernel_rfl)
def aae:List T:=[(T.sl .any 12 [(T.sl .any 64 (bl ([3]++o 63 0))),(T.sl .any 64 (bl ([1,0,2,0,0,0,0,0,0,0,1]++o 49 0++[5,0,30,1]))),(T.sl .any 64 (bl ([2,0,1,0,3,0,0,0,1,0,2]++o 49 0++[10,0,46,2]))),(T.sl .any 64 (bl (o 64 0))),(T.sl .any 64 (bl (o 64 0))),(T.sl .any 64 (bl (o 64 0))),(T.sl .any 64 (bl ([2,0,1,97]++o 60 0))),(T.sl .any 64 (bl ([120]++o 63 0))),(T.sl .any 64 (bl (o 64 0))),(T.sl .any 64 (bl (o 64 0))),(T.sl .any 64 (bl (o 64 0))),(T.sl .any 64 (bl (o 64 0)))]),(T.agg [(i 1),(i 5),(i 6),(i 5)]),(T.sl .any 5 [(i 1),(i 0),(i 2),(i 0),(i 0),(i 1),(i 0),(i 0),(i 0),(i 0),(i 2),(i 0),(i 1),(i 3),(i 1),(i 2),(i 0),(i 0),(i 0),(i 0),(i 0),(i 0),(i 0),(i 0),(i 0),(i 0),(i 0),(i 0),(i 0),(i 0),(i 0),(i 0),(i 0),(i 0),(i 0),(i 0),(i 0),(i 0),(i 0),(i 0),(i 0),(i 0),(i 0),(i 0),(i 0),(i 0),(i 0),(i 0),(i 0),(i 0)]),(i 2)]
def aaf:T:=(T.sl .any 1 [(y 120)])
theorem ahR:Ev E sL aae aaf:=aT (fn:=xD) [(aP,Qa,Qb),(aP,Qc,Qd),(aP,Qe,Qf),(aP,Qg,Qh),(aP,Qi,Qj)] 200 ⟨ZH,ZW,ZZ,Z2,Z5,trivial⟩ rfl (by decide) rfl rfl (by kernel_rfl)
def akD:List T:=[]
def akE:T:=(T.v (.bool true))
theorem akF:Ev E gh akD akE:=aT (fn:=xC) [(yE,Y6,Y7),(xt,Zn,Zo),(lG,Zp,Zq),(gH,Vs,Vt),(je,aaa,aab),(lF,aac,aad),(sL,aae,aaf)] 200 ⟨aho,ahv,ahw,adI,ahP,ahQ,ahR,trivial⟩ rfl (by decide) rfl rfl (by kernel_rfl)
end Go.Vi.Zz.Run
end
