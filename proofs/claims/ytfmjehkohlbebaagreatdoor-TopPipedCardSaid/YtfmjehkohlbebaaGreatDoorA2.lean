/- Functions of the program in the words of the interpreter, printed by a program of mine; the second half, and the table of all. -/
import Derived.Test.YtfmjehkohlbebaaGreatDoorA1
set_option maxRecDepth 100000
set_option linter.unusedVariables false
namespace Ast
open Go Den
noncomputable section
def R157_1:RegF:=λa e M n k=>e.g q1 λb=>e.g q0 λc=>oA b (oA c (v_conv .u8 c λd=>v_six (.str [0,1,2,2,3,3,3,3,4,4,4,4,4,4,4,4,5,5,5,5,5,5,5,5,5,5,5,5,5,5,5,5,6,6,6,6,6,6,6,6,6,6,6,6,6,6,6,6,6,6,6,6,6,6,6,6,6,6,6,6,6,6,6,6,7,7,7,7,7,7,7,7,7,7,7,7,7,7,7,7,7,7,7,7,7,7,7,7,7,7,7,7,7,7,7,7,7,7,7,7,7,7,7,7,7,7,7,7,7,7,7,7,7,7,7,7,7,7,7,7,7,7,7,7,7,7,7,7,8,8,8,8,8,8,8,8,8,8,8,8,8,8,8,8,8,8,8,8,8,8,8,8,8,8,8,8,8,8,8,8,8,8,8,8,8,8,8,8,8,8,8,8,8,8,8,8,8,8,8,8,8,8,8,8,8,8,8,8,8,8,8,8,8,8,8,8,8,8,8,8,8,8,8,8,8,8,8,8,8,8,8,8,8,8,8,8,8,8,8,8,8,8,8,8,8,8,8,8,8,8,8,8,8,8,8,8,8,8,8,8,8,8,8,8,8,8,8,8,8,8,8,8,8,8,8,8]) d λf=>v_conv .i64 f λg=>v_add b g λh=>Y e q1 h M n k))
def R157_2:RegF:=λa e M n k=>e.g q0 λb=>oA b (v_kcmp .geq b (.int .u64 (.ofNat 256)) λc=>Z e q4 c M n k)
def R157_3:RegF:=λa e M n k=>e.g q0 λb=>oA b (v_kop .shr b (.int .u64 (.ofNat 8)) λc=>Y e q0 c M n k)
def R157_4:RegF:=λa e M n k=>e.g q1 λb=>oA b (v_add b i8 λc=>Y e q1 c M n k)
def R157_5:RegF:=λa e M n k=>e.g q0 λb=>oA b (v_kcmp .geq b (.int .u64 (.ofNat 65536)) λc=>Z e q3 c M n k)
def R157_6:RegF:=λa e M n k=>e.g q0 λb=>oA b (v_kop .shr b (.int .u64 (.ofNat 16)) λc=>Y e q0 c M n k)
def R157_7:RegF:=λa e M n k=>e.g q1 λb=>oA b (v_add b i16 λc=>Y e q1 c M n k)
def R157_8:RegF:=λa e M n k=>e.g q0 λb=>oA b (v_kcmp .geq b (.int .u64 (.ofNat 4294967296)) λc=>Z e q2 c M n k)
def R157_9:RegF:=λa e M n k=>e.g q0 λb=>oA b (v_kop .shr b (.int .u64 (.ofNat 32)) λc=>Y e q0 c M n k)
def R157_10:RegF:=λa e M n k=>Y e q1 i32 M n k
def S157:List (P × I):=[(s0,q0),(s2,q1),(s4,q2),(s8,q3),(s14,q4)]
def G157:F2:=.mk (λa e M n k=>R72_0 a e M n λe M n=>(λ(j0:K3)=>R157_8 a e M n λe M n=>(λ(j5:K3)=>C e q2 (j5 e M n) (R157_9 a e M n λe M n=>R157_10 a e M n j5)) j0) λe M n=>(λ(j1:K3)=>R157_5 a e M n λe M n=>(λ(j4:K3)=>C e q3 (j4 e M n) (R157_6 a e M n λe M n=>R157_7 a e M n j4)) j1) λe M n=>(λ(j2:K3)=>R157_2 a e M n λe M n=>(λ(j3:K3)=>C e q4 (j3 e M n) (R157_3 a e M n λe M n=>R157_4 a e M n j3)) j2) λe M n=>R157_1 a e M n λe M n=>k .r e M n) [.t q1] [q0]
def R160_0:RegF:=λa e M n k=>e.g q0 λb=>e.g q1 λc=>bxV 102 b M n λd M n=>bxV 32 c M n λf M n=>oA bf (e.t q3 d λe=>e.t q4 f λe=>Z e q5 bf M n k)
def R160_1:RegF:=λa e M n k=>e.g q3 λb=>e.g q2 λc=>e.g q4 λd=>v_fa b 14 λf=>L M f λg=>v_not g λh=>oA h (gM h M n c λl M n=>gP h M n (v_le i0 l) λm M n=>v_pick h m bf λo=>oA o (gM o M n c λp M n=>gP o M n (v_le p i1099511627776) λq M n=>v_pick o q bf λr=>oA r (gP r M n (v_fa b 18) λs M n=>gL r M n s λt M n=>gP r M n (v_eq t m0) λu M n=>gM r M n u λw M n=>hM w M n c λx M n=>hP w M n (v_fa b 18) λy M n=>hL w M n y λz M n=>hP w M n (v_fa d 2) λA M n=>hL w M n A λB M n=>hN w M n (λj=>bslV 3 1 2 [i0,i0] [(0,1,z),(1,1,B)] M n λv M n=>j v M n) λC M n=>hN w M n (λj=>callV a s104 [C] M n λv M n=>j v M n) λD M n=>hP w M n (v_le D x) λE M n=>gP r M n (v_pick w bt E) λF M n=>v_pick r F bf λG=>Y e q5 G M n k)))
def S160:List (P × I):=[(s0,q0),(s1,q1),(s2,q2),(s3,q3),(s4,q4),(s6,q5)]
def G160:F2:=.mk (λa e M n k=>R160_0 a e M n λe M n=>R160_1 a e M n λe M n=>k .r e M n) [.t q5] [q0,q1,q2]
def R161_0:RegF:=λa e M n k=>e.g q0 λb=>e.g q1 λc=>bxV 279 b M n λd M n=>bxV 32 c M n λf M n=>alV 279 (rep 9 i0 ++ [bf,i0,i0,i0,(.str []),bf,i0,i0,i0,i0,i0,.nils]) M n λg M n=>e.t q3 d λe=>e.t q4 f λe=>Z e q5 g M n k
def R161_1:RegF:=λa e M n k=>e.g q2 λb=>e.g q3 λc=>oA b (oA b (v_fa c 5 λd=>stV M d i1 1 λM=>v_fa c 14 λf=>stV M f bt 1 λM=>v_fa c 15 λg=>stV M g b 1 λM=>v_fa c 18 λh=>stV M h b 1 λM=>k e M n))
def R161_2:RegF:=λa e M n k=>e.g q2 λb=>e.g q4 λc=>e.g q3 λd=>oA b (v_fa c 3 λf=>L M f λg=>bslV 3 1 2 [i0,i0] [(0,1,b),(1,1,g)] M n λh M n=>callV a s104 [h] M n λl M n=>v_fa d 16 λm=>stV M m l 1 λM=>k e M n)
def R161_3:RegF:=λa e M n k=>e.g q3 λb=>v_bld [i0,i0,(.str [])] [] λc=>v_fa b 17 λd=>stV M d i0 1 λM=>v_fa b 7 λf=>stV M f i0 1 λM=>v_fa b 8 λg=>stV M g i0 1 λM=>v_fa b 10 λh=>stV M h i0 1 λM=>v_fa b 11 λl=>stV M l c 3 λM=>k e M n
def R161_4:RegF:=λa e M n k=>e.g q3 λb=>e.g q5 λc=>ldW M b 21 true λ_ d=>stV M c d 21 λM=>k e M n
def R161_5:RegF:=λa e M n k=>e.g q4 λb=>v_fa b 0 λc=>L M c λd=>v_eq d i1 λf=>Z e q6 f M n k
def R161_6:RegF:=λa e M n k=>e.g q3 λb=>v_fa b 16 λc=>L M c λd=>v_fa b 2 λf=>v_fa f 2 λg=>stV M g d 1 λM=>k e M n
def S161:List (P × I):=[(s0,q0),(s1,q1),(s2,q2),(s3,q3),(s4,q4),(s6,q5),(s21,q6)]
def G161:F2:=.mk (λa e M n k=>R161_0 a e M n λe M n=>R161_1 a e M n λe M n=>R161_2 a e M n λe M n=>(λ(j0:K3)=>R161_5 a e M n λe M n=>(λ(j1:K3)=>C e q6 (j1 e M n) (R161_6 a e M n j1)) j0) λe M n=>R161_3 a e M n λe M n=>R161_4 a e M n λe M n=>k .r e M n) [.c q5 21 true] [q0,q1,q2]
def R162_1:RegF:=λa e M n k=>mkmV M n λb M n=>callV a s207 [] M n λc M n=>v_bld ([.nilm,(.int .u64 (.ofNat 0))] ++ rep 64 .nils ++ [(.int .u64 (.ofNat 0))] ++ rep 64 .nils ++ [.nil]) [(0,1,b),(131,1,c)] λd=>bxV 324 d M n λf M n=>Y e q0 f M n k
def S162:List (P × I):=[(s0,q0)]
def G162:F2:=.mk (λa e M n k=>R96_0 a e M n λe M n=>R162_1 a e M n λe M n=>k .r e M n) [.t q0] []
def R163_0:RegF:=λa e M n k=>Y e q10 .nils M n k
def R163_4:RegF:=λa e M n k=>e.g q2 λb=>e.g q3 λc=>e.g q0 λd=>oA b (oA c (oA d (v_nck d λf=>v_fa f 5 λg=>L M g λh=>callV a s28 [h] M n λl M n=>callV a s208 [b,c,l] M n λm M n=>Y e q10 m M n k)))
def R163_5:RegF:=λa e M n k=>e.g q0 λb=>oA b (v_nck b λc=>v_fa c 2 λd=>L M d λf=>v_lenS f λg=>oA i0 (e.t q7 f λe=>e.t q5 g λe=>Z e q1 i0 M n k))
def R163_7:RegF:=λa e M n k=>e.g q1 λb=>e.g q7 λc=>oA b (v_ixS c b 21 λd=>ldW M d 21 true λ_ f=>alV 102 (rep 9 i0 ++ [bf,i0,i0,i0,(.str []),bf,i0,i0,i0,i0,i0,.nils]) M n λg M n=>oA b (stV M g f 21 λM=>e.t q8 g λe=>Z e q9 b M n k))
def R163_8:RegF:=λa e M n k=>e.g q2 λb=>e.g q8 λc=>oA b (v_fa c 2 λd=>ldW M d 3 true λ_ f=>bslV 99 3 1 [i0,i0,i0] [(0,3,f)] M n λg M n=>appV 99 3 24 b g M n λh M n=>Y e q2 h M n k)
def R163_9:RegF:=λa e M n k=>e.g q3 λb=>e.g q0 λc=>e.g q9 λd=>oA b (oA c (v_nck c λf=>v_fa f 5 λg=>L M g λh=>oA d (callV a s169 [h,d] M n λl M n=>bslV 3 1 1 [i0] [(0,1,l)] M n λm M n=>appV 3 1 8 b m M n λo M n=>Y e q3 o M n k)))
def S163:List (P × I):=[(s0,q0),(s14,q1),(s3,q2),(s4,q3),(s8,q4),(s13,q5),(s15,q6),(s12,q7),(s6,q8),(s5,q9),(s2,q10)]
def G163:F2:=.mk (λa e M n k=>R163_0 a e M n λe M n=>R68_0 a e M n λe M n=>C e q4 (R15_0 a e M n λe M n=>R30_0 a e M n λe M n=>(λ(j0:K3)=>R163_5 a e M n λe M n=>(λ(j1:K3)=>loopK (λa e M n k=>R80_4 a e M n λe M n=>C e q6 (k (.x 0) e M n) (R163_7 a e M n λe M n=>R163_8 a e M n λe M n=>R163_9 a e M n λe M n=>R28_9 a e M n λe M n=>k .n e M n)) a e M n (X k j1 0)) j0) λe M n=>R163_4 a e M n λe M n=>k .r e M n) (R163_0 a e M n λe M n=>k .r e M n)) [.t q10] [q0]
def R164_0:RegF:=λa e M n k=>e.g q2 λb=>bxV 99 b M n λc M n=>oA i0 (e.t q3 c λe=>Z e q7 i0 M n k)
def R164_2:RegF:=λa e M n k=>e.g q1 λb=>e.g q3 λc=>oA b (v_lt b i0 λd=>oA d (gdK d false .off M n (λj=>ldW M c 3 true λ_ v=>j v M n) λf M n=>hN d M n (λj=>callV a s209 [f] M n λv M n=>j v M n) λg M n=>hP d M n (v_not g) λh M n=>v_pick d bt h λl=>Y e q5 l M n k))
def R164_3:RegF:=λa e M n k=>e.g q0 λb=>e.g q1 λc=>oA b (oA c (callV a s210 [b,c] M n λd M n=>Y e q6 d M n k))
def R164_4:RegF:=λa e M n k=>e.g q0 λb=>e.g q1 λc=>e.g q3 λd=>oA b (oA c (ldW M d 3 true λ_ f=>callV a s211 [b,c,f] M n λg M n=>k e M n))
def R164_6:RegF:=λa e M n k=>Y e q7 i5 M n k
def R164_7:RegF:=λa e M n k=>Y e q7 i2 M n k
def R164_8:RegF:=λa e M n k=>Y e q7 i1 M n k
def S164:List (P × I):=[(s0,q0),(s1,q1),(s2,q2),(s5,q3),(s7,q4),(s10,q5),(s18,q6),(s6,q7)]
def G164:F2:=.mk (λa e M n k=>R164_0 a e M n λe M n=>R111_1 a e M n λe M n=>C e q4 (R164_2 a e M n λe M n=>C e q5 (R164_3 a e M n λe M n=>C e q6 (R164_4 a e M n λe M n=>R62_0 a e M n λe M n=>k .r e M n) (R164_6 a e M n λe M n=>k .r e M n)) (R164_7 a e M n λe M n=>k .r e M n)) (R164_8 a e M n λe M n=>k .r e M n)) [.t q7] [q0,q1,q2]
def R165_2:RegF:=λa e M n k=>e.g q0 λb=>oA b (v_nck b λc=>v_fa c 1 λd=>v_fa d 0 λf=>L M f λg=>callV a s212 [g] M n λh M n=>Y e q1 h M n k)
def R165_3:RegF:=λa e M n k=>e.g q1 λb=>oA b (v_le i0 b λc=>Z e q4 c M n k)
def R165_4:RegF:=λa e M n k=>e.g q0 λb=>oA b (v_nck b λc=>v_fa c 131 λd=>L M d λf=>callV a s213 [f] M n λg M n=>oA g (v_ext g 0 λh=>v_ext g 1 λl=>alV 329 [i0,i0] M n λm M n=>stV M m h 2 λM=>oA l (e.t q7 m λe=>Z e q5 l M n k)))
def R165_6:RegF:=λa e M n k=>e.g q0 λb=>oA b (v_nck b λc=>v_fa c 66 λd=>v_fa d 0 λf=>L M f λg=>callV a s212 [g] M n λh M n=>Y e q2 h M n k)
def R165_7:RegF:=λa e M n k=>e.g q2 λb=>oA b (v_le i0 b λc=>Z e q8 c M n k)
def R165_9:RegF:=λa e M n k=>e.g q0 λb=>e.g q2 λc=>oA b (oA c (v_nck b λd=>v_fa d 66 λf=>v_fa f 1 λg=>v_ixA g c 64 1 λh=>L M h λl=>v_ixS l i0 1 λm=>L M m λo=>oA o (oA bt (e.t q9 o λe=>Z e q10 bt M n k))))
def R165_10:RegF:=λa e M n k=>e.g q7 λb=>v_fa b 0 λc=>L M c λd=>oA d (oA bt (e.t q9 d λe=>Z e q10 bt M n k))
def R165_11:RegF:=λa e M n k=>e.g q0 λb=>e.g q1 λc=>oA b (oA c (v_nck b λd=>v_fa d 1 λf=>v_fa f 1 λg=>v_ixA g c 64 1 λh=>L M h λl=>v_ixS l i0 1 λm=>L M m λo=>oA o (oA bt (e.t q9 o λe=>Z e q10 bt M n k))))
def S165:List (P × I):=[(s0,q0),(s4,q1),(s7,q2),(s9,q3),(s17,q4),(s6,q5),(s35,q6),(s5,q7),(s45,q8),(s2,q9),(s3,q10)]
def G165:F2:=.mk (λa e M n k=>R109_0 a e M n λe M n=>R28_1 a e M n λe M n=>C e q3 (R165_2 a e M n λe M n=>R165_3 a e M n λe M n=>C e q4 (R165_4 a e M n λe M n=>R23_14 a e M n λe M n=>C e q6 (R165_6 a e M n λe M n=>R165_7 a e M n λe M n=>C e q8 (R109_0 a e M n λe M n=>k .r e M n) (R165_9 a e M n λe M n=>k .r e M n)) (R165_10 a e M n λe M n=>k .r e M n)) (R165_11 a e M n λe M n=>k .r e M n)) (R109_0 a e M n λe M n=>k .r e M n)) [.t q9,.t q10] [q0]
def R166_1:RegF:=λa e M n k=>e.g q0 λb=>e.g q1 λc=>e.g q2 λd=>oA b (oA c (callV a s115 [b,c] M n λf M n=>v_not f λg=>oA g (hM g M n b λh M n=>hP g M n (v_nck h) λl M n=>hP g M n (v_fa l 0) λm M n=>hL g M n m λo M n=>hM g M n c λp M n=>hP g M n (v_ixS o p 8) λq M n=>hP g M n (v_fa q 6) λr M n=>hL g M n r λs M n=>hM g M n d λt M n=>hN g M n (λj=>callV a s136 [s,t] M n λv M n=>j v M n) λu M n=>v_pick g bt u λw=>Y e q3 w M n k)))
def S166:List (P × I):=[(s0,q0),(s1,q1),(s2,q2),(s6,q3)]
def G166:F2:=.mk (λa e M n k=>R81_0 a e M n λe M n=>R166_1 a e M n λe M n=>k .r e M n) [.t q3] [q0,q1,q2]
def R167_0:RegF:=λa e M n k=>e.g q0 λb=>bxV 78 b M n λc M n=>oA i0 (e.t q3 c λe=>Z e q8 i0 M n k)
def R167_1:RegF:=λa e M n k=>e.g q3 λb=>e.g q2 λc=>L M b λd=>oA c (callV a s214 [d,c] M n λf M n=>alV 3 [i0] M n λg M n=>stV M g f 1 λM=>Z e q4 g M n k)
def R167_2:RegF:=λa e M n k=>e.g q3 λb=>L M b λc=>v_nqP false c λd=>Y e q5 d M n k
def R167_3:RegF:=λa e M n k=>e.g q4 λb=>L M b λc=>v_eq c i0 λd=>Y e q6 d M n k
def R167_4:RegF:=λa e M n k=>e.g q1 λb=>e.g q3 λc=>e.g q4 λd=>oA b (v_mkf s215 [] [c,d] λf=>callV a s83 [b,f] M n λg M n=>Y e q7 g M n k)
def R167_6:RegF:=λa e M n k=>Y e q8 i7 M n k
def R167_7:RegF:=λa e M n k=>Y e q8 i19 M n k
def S167:List (P × I):=[(s0,q0),(s1,q1),(s2,q2),(s3,q3),(s7,q4),(s11,q5),(s14,q6),(s17,q7),(s6,q8)]
def G167:F2:=.mk (λa e M n k=>R167_0 a e M n λe M n=>R167_1 a e M n λe M n=>R167_2 a e M n λe M n=>C e q5 (R167_3 a e M n λe M n=>C e q6 (R167_4 a e M n λe M n=>C e q7 (R66_0 a e M n λe M n=>k .r e M n) (R167_6 a e M n λe M n=>k .r e M n)) (R167_7 a e M n λe M n=>k .r e M n)) (R97_11 a e M n λe M n=>k .r e M n)) [.t q8] [q0,q1,q2]
def R168_3:RegF:=λa e M n k=>e.g q0 λb=>e.g q1 λc=>oA b (v_nck b λd=>v_fa d 5 λf=>L M f λg=>oA c (callV a s30 [g,c] M n λh M n=>v_lenS h λl=>oA i0 (e.t q6 h λe=>e.t q4 l λe=>Z e q2 i0 M n k)))
def R168_5:RegF:=λa e M n k=>e.g q6 λb=>e.g q2 λc=>v_ixS b c 2 λd=>ldW M d 2 true λ_ f=>alV 166 [i0,i0] M n λg M n=>stV M g f 2 λM=>Z e q7 g M n k
def R168_6:RegF:=λa e M n k=>e.g q3 λb=>e.g q7 λc=>oA b (v_fa c 0 λd=>L M d λf=>bslV 3 1 1 [i0] [(0,1,f)] M n λg M n=>appV 3 1 8 b g M n λh M n=>Y e q3 h M n k)
def S168:List (P × I):=[(s0,q0),(s1,q1),(s15,q2),(s5,q3),(s14,q4),(s16,q5),(s13,q6),(s7,q7),(s4,q8)]
def G168:F2:=.mk (λa e M n k=>R28_0 a e M n λe M n=>R30_0 a e M n λe M n=>(λ(j0:K3)=>R168_3 a e M n λe M n=>(λ(j1:K3)=>loopK (λa e M n k=>R62_3 a e M n λe M n=>C e q5 (k (.x 0) e M n) (R168_5 a e M n λe M n=>R168_6 a e M n λe M n=>R14_15 a e M n λe M n=>k .n e M n)) a e M n (X k j1 0)) j0) λe M n=>R42_2 a e M n λe M n=>k .r e M n) [.t q8] [q0,q1]
def R169_2:RegF:=λa e M n k=>e.g q0 λb=>e.g q1 λc=>oA b (v_nck b λd=>v_fa d 2 λf=>L M f λg=>oA c (lkuV i0 true g c M λh=>oA h (v_ext h 0 λl=>v_ext h 1 λm=>oA l (oA m (e.t q5 l λe=>Z e q3 m M n k)))))
def R169_4:RegF:=λa e M n k=>Y e q6 m0 M n k
def S169:List (P × I):=[(s0,q0),(s1,q1),(s8,q2),(s6,q3),(s18,q4),(s5,q5),(s4,q6)]
def G169:F2:=.mk (λa e M n k=>R19_4 a e M n λe M n=>R30_1 a e M n λe M n=>C e q2 (R169_2 a e M n λe M n=>R61_1 a e M n λe M n=>C e q4 (R169_4 a e M n λe M n=>k .r e M n) (R97_4 a e M n λe M n=>k .r e M n)) (R169_4 a e M n λe M n=>k .r e M n)) [.t q6] [q0,q1]
def R170_3:RegF:=λa e M n k=>e.g q0 λb=>e.g q1 λc=>oA b (v_nck b λd=>v_fa d 1 λf=>L M f λg=>oA c (lkuV .nils false g c M λh=>v_lenS h λl=>oA i0 (e.t q6 h λe=>e.t q4 l λe=>Z e q2 i0 M n k)))
def S170:List (P × I):=[(s0,q0),(s1,q1),(s15,q2),(s5,q3),(s14,q4),(s16,q5),(s13,q6),(s7,q7),(s4,q8)]
def G170:F2:=.mk (λa e M n k=>R28_0 a e M n λe M n=>R30_0 a e M n λe M n=>(λ(j0:K3)=>R170_3 a e M n λe M n=>(λ(j1:K3)=>loopK (λa e M n k=>R62_3 a e M n λe M n=>C e q5 (k (.x 0) e M n) (R168_5 a e M n λe M n=>R168_6 a e M n λe M n=>R14_15 a e M n λe M n=>k .n e M n)) a e M n (X k j1 0)) j0) λe M n=>R42_2 a e M n λe M n=>k .r e M n) [.t q8] [q0,q1]
def R171_0:RegF:=λa e M n k=>e.g q0 λb=>bxV 64 b M n λc M n=>oA i0 (e.t q4 c λe=>Z e q9 i0 M n k)
def R171_1:RegF:=λa e M n k=>e.g q1 λb=>e.g q4 λc=>oA b (v_lt b i0 λd=>oA d (hM d M n b λf M n=>gdK d false .off M n (λj=>ldW M c 5 true λ_ v=>j v M n) λg M n=>hN d M n (λj=>callV a s216 [g] M n λv M n=>j v M n) λh M n=>hP d M n (v_le h f) λl M n=>v_pick d bt l λm=>Z e q6 m M n k))
def R171_2:RegF:=λa e M n k=>Y e q9 i0 M n k
def R171_3:RegF:=λa e M n k=>e.g q4 λb=>v_fa b 0 λc=>L M c λd=>Z e q2 d M n k
def R171_4:RegF:=λa e M n k=>e.g q2 λb=>v_eq b i3 λc=>Y e q5 c M n k
def R171_5:RegF:=λa e M n k=>e.g q2 λb=>v_eq b i4 λc=>Y e q5 c M n k
def R171_6:RegF:=λa e M n k=>e.g q4 λb=>e.g q1 λc=>ldW M b 5 true λ_ d=>oA c (callV a s217 [d,c] M n λf M n=>v_add f i15 λg=>v_quo g i16 λh=>v_add i2 h λl=>Y e q9 l M n k)
def R171_7:RegF:=λa e M n k=>e.g q2 λb=>v_eq b i1 λc=>Y e q3 c M n k
def R171_8:RegF:=λa e M n k=>e.g q2 λb=>v_eq b i8 λc=>Y e q3 c M n k
def R171_9:RegF:=λa e M n k=>e.g q2 λb=>v_eq b i9 λc=>Y e q3 c M n k
def R171_10:RegF:=λa e M n k=>e.g q2 λb=>v_eq b i10 λc=>Y e q3 c M n k
def R171_11:RegF:=λa e M n k=>e.g q2 λb=>v_eq b i12 λc=>Y e q3 c M n k
def R171_12:RegF:=λa e M n k=>e.g q2 λb=>v_eq b i13 λc=>Y e q3 c M n k
def R171_13:RegF:=λa e M n k=>e.g q4 λb=>v_fa b 3 λc=>L M c λd=>bslV 9 1 1 [(.str [])] [(0,1,d)] M n λf M n=>callV a s218 [f] M n λg M n=>v_add i2 g λh=>Y e q9 h M n k
def R171_14:RegF:=λa e M n k=>e.g q2 λb=>v_eq b i7 λc=>Y e q7 c M n k
def R171_15:RegF:=λa e M n k=>e.g q4 λb=>v_fa b 3 λc=>L M c λd=>v_fa b 4 λf=>L M f λg=>bslV 9 1 2 [(.str []),(.str [])] [(0,1,d),(1,1,g)] M n λh M n=>callV a s218 [h] M n λl M n=>v_add i2 l λm=>Y e q9 m M n k
def R171_16:RegF:=λa e M n k=>e.g q2 λb=>v_eq b i14 λc=>Y e q8 c M n k
def R171_17:RegF:=λa e M n k=>Y e q9 i4 M n k
def R171_18:RegF:=λa e M n k=>Y e q9 i2 M n k
def S171:List (P × I):=[(s0,q0),(s1,q1),(s14,q2),(s24,q3),(s2,q4),(s15,q5),(s12,q6),(s36,q7),(s45,q8),(s4,q9)]
def G171:F2:=.mk ((c_seq (c_fn R171_0) (c_seq (c_seq (c_fn R171_1) (c_cond (.t q6) (c_seq (c_fn R171_2) c_ret) c_skip)) (c_seq (c_seq (c_fn R171_3) (c_blk 0 (c_seq (c_seq (c_fn R171_4) (c_cond (.t q5) c_skip (c_fn R171_5))) (c_cond (.t q5) (c_seq (c_fn R171_6) c_ret) (c_seq (c_seq (c_fn R171_7) (c_cond (.t q3) c_skip (c_seq (c_fn R171_8) (c_cond (.t q3) c_skip (c_seq (c_fn R171_9) (c_cond (.t q3) c_skip (c_seq (c_fn R171_10) (c_cond (.t q3) c_skip (c_seq (c_fn R171_11) (c_cond (.t q3) c_skip (c_fn R171_12))))))))))) (c_cond (.t q3) (c_seq (c_fn R171_13) c_ret) (c_seq (c_fn R171_14) (c_cond (.t q7) (c_seq (c_fn R171_15) c_ret) (c_seq (c_fn R171_16) (c_cond (.t q8) (c_seq (c_fn R171_17) c_ret) c_skip)))))))))) (c_seq (c_fn R171_18) c_ret))))) [.t q9] [q0,q1]
def R173_0:RegF:=λa e M n k=>e.g q2 λb=>bxV 3 b M n λc M n=>oA bf (e.t q4 c λe=>Z e q6 bf M n k)
def R173_2:RegF:=λa e M n k=>e.g q0 λb=>oA b (v_nck b λc=>v_fa c 0 λd=>L M d λf=>v_mkf s130 [f] [] λg=>alV 159 [.nilf] M n λh M n=>stV M h g 1 λM=>Z e q5 h M n k)
def R173_3:RegF:=λa e M n k=>e.g q0 λb=>e.g q1 λc=>e.g q4 λd=>e.g q5 λf=>oA b (v_nck b λg=>v_fa g 1 λh=>L M h λl=>oA c (lkuV .nils false l c M λm=>v_mkf s219 [] [d,f] λo=>callV a s128 [m,o] M n λp M n=>Y e q6 p M n k))
def S173:List (P × I):=[(s0,q0),(s1,q1),(s2,q2),(s9,q3),(s5,q4),(s7,q5),(s6,q6)]
def G173:F2:=.mk (λa e M n k=>R173_0 a e M n λe M n=>R28_1 a e M n λe M n=>C e q3 (R173_2 a e M n λe M n=>R173_3 a e M n λe M n=>k .r e M n) (R35_0 a e M n λe M n=>k .r e M n)) [.t q6] [q0,q1,q2]
def R174_0:RegF:=λa e M n k=>e.g q2 λb=>e.g q3 λc=>bxV 66 b M n λd M n=>bxV 70 c M n λf M n=>e.t q4 d λe=>Z e q5 f M n k
def R174_1:RegF:=λa e M n k=>e.g q0 λb=>e.g q1 λc=>e.g q4 λd=>e.g q5 λf=>(λW=>oA b (oA b (v_nck b λg=>v_fa g 11 λh=>L M h λl=>oA b (v_nck b λm=>v_fa m 1 λo=>L M o λp=>oA c (v_fa d 0 λq=>L M q λr=>v_fa d 4 λs=>ldW M s 5 true λ_ t=>ldW M f 3 true λ_ u=>v_bld [i0,i0,i0,i0,i0,i0,(.str []),(.str []),i0,i0,(.str [])] [(0,1,p),(1,1,c),(2,1,r),(3,5,t),(8,3,u)] λw=>bslV 72 11 1 [i0,i0,i0,i0,i0,i0,(.str []),(.str []),i0,i0,(.str [])] [(0,11,w)] M n λx M n=>appV 72 11 112 l x M n λy M n=>v_nck b λz=>v_fa z 11 λA=>bR (stV M A y 1 λM=>k e M n) (keptB W M [])))))) M
def S174:List (P × I):=[(s0,q0),(s1,q1),(s2,q2),(s3,q3),(s6,q4),(s7,q5)]
def G174:F2:=.mk (λa e M n k=>R174_0 a e M n λe M n=>R174_1 a e M n λe M n=>k .n e M n) [] [q0,q1,q2,q3]
def R175_1:RegF:=λa e M n k=>e.g q0 λb=>e.g q1 λc=>e.g q2 λd=>oA b (v_nck b λf=>v_fa f 10 λg=>L M g λh=>oA c (oA d (callV a s220 [h,c,d] M n λl M n=>k e M n)))
def R175_2:RegF:=λa e M n k=>e.g q0 λb=>oA b (callV a s221 [b] M n λc M n=>k e M n)
def R175_4:RegF:=λa e M n k=>e.g q3 λb=>oA b (oA b (oA b (oA b (v_bld [i0,i0,(.str [])] [] λc=>v_nck b λd=>v_fa d 5 λf=>stV M f i7 1 λM=>v_nck b λg=>v_fa g 6 λh=>stV M h m0 1 λM=>v_nck b λl=>v_fa l 9 λm=>stV M m bf 1 λM=>v_nck b λo=>v_fa o 11 λp=>stV M p c 3 λM=>k e M n))))
def S175:List (P × I):=[(s0,q0),(s1,q1),(s2,q2),(s6,q3)]
def G175:F2:=.mk (λa e M n k=>R120_2 a e M n λe M n=>R175_1 a e M n λe M n=>R175_2 a e M n λe M n=>R118_1 a e M n λe M n=>R175_4 a e M n λe M n=>k .n e M n) [] [q0,q1,q2]
def R176_0:RegF:=λa e M n k=>e.g q0 λb=>oA b (v_mkf s58 [b] [] λc=>Y e q6 c M n k)
def R176_1:RegF:=λa e M n k=>e.g q1 λb=>oA b (v_lenS b λc=>oA i0 (e.t q5 b λe=>e.t q3 c λe=>Z e q2 i0 M n k))
def R176_2:RegF:=λa e M n k=>e.g q2 λb=>e.g q3 λc=>v_lt b c λd=>Z e q4 d M n k
def R176_3:RegF:=λa e M n k=>e.g q5 λb=>e.g q2 λc=>v_ixS b c 1 λd=>L M d λf=>Y e q7 f M n k
def R176_4:RegF:=λa e M n k=>e.g q6 λb=>e.g q7 λc=>oA b (oA c (cvV a b [c] M n λd M n=>k e M n))
def S176:List (P × I):=[(s0,q0),(s1,q1),(s11,q2),(s10,q3),(s12,q4),(s9,q5),(s4,q6),(s6,q7)]
def G176:F2:=.mk (λa e M n k=>R176_0 a e M n λe M n=>R176_1 a e M n λe M n=>(λ(j0:K3)=>loopK (λa e M n k=>R176_2 a e M n λe M n=>C e q4 (k (.x 0) e M n) (R176_3 a e M n λe M n=>R176_4 a e M n λe M n=>R14_15 a e M n λe M n=>k .n e M n)) a e M n (X k j0 0)) λe M n=>k .n e M n) [] [q0,q1]
def R177_2:RegF:=λa e M n k=>e.g q0 λb=>e.g q1 λc=>oA b (oA c (callV a s170 [b,c] M n λd M n=>Y e q3 d M n k))
def R177_3:RegF:=λa e M n k=>e.g q0 λb=>e.g q1 λc=>oA b (v_nck b λd=>v_fa d 2 λf=>L M f λg=>oA c (mdlV g c M λM=>k e M n))
def R177_4:RegF:=λa e M n k=>e.g q0 λb=>e.g q1 λc=>oA b (v_nck b λd=>v_fa d 1 λf=>L M f λg=>oA c (mdlV g c M λM=>k e M n))
def R177_5:RegF:=λa e M n k=>e.g q0 λb=>e.g q3 λc=>oA b (oA c (callV a s222 [b,c] M n λd M n=>Y e q4 d M n k))
def S177:List (P × I):=[(s0,q0),(s1,q1),(s7,q2),(s5,q3),(s4,q4)]
def G177:F2:=.mk (λa e M n k=>R19_3 a e M n λe M n=>R30_1 a e M n λe M n=>C e q2 (R177_2 a e M n λe M n=>R177_3 a e M n λe M n=>R177_4 a e M n λe M n=>R177_5 a e M n λe M n=>k .r e M n) (R19_3 a e M n λe M n=>k .r e M n)) [.t q4] [q0,q1]
def R178_0:RegF:=λa e M n k=>e.g q0 λb=>e.g q1 λc=>e.g q2 λd=>e.g q3 λf=>oA b (v_nck b λg=>v_fa g 2 λh=>L M h λl=>oA c (v_ixS l c 21 λm=>ldW M m 21 true λ_ o=>oA d (oA f (callV a s223 [o,d,f] M n λp M n=>oA p (v_ext p 0 λq=>v_ext p 1 λr=>alV 102 (rep 9 i0 ++ [bf,i0,i0,i0,(.str []),bf,i0,i0,i0,i0,i0,.nils]) M n λs M n=>alV 60 [i0,i0,i0,i0,i0,bf] M n λt M n=>stV M s q 21 λM=>stV M t r 6 λM=>e.t q5 s λe=>Z e q4 t M n k)))))
def R178_2:RegF:=λa e M n k=>e.g q0 λb=>e.g q4 λc=>(λW=>oA b (oA b (v_nck b λd=>v_fa d 12 λf=>L M f λg=>ldW M c 6 true λ_ h=>bslV 60 6 1 [i0,i0,i0,i0,i0,bf] [(0,6,h)] M n λl M n=>appV 60 6 48 g l M n λm M n=>v_nck b λo=>v_fa o 12 λp=>bR (stV M p m 1 λM=>k e M n) (keptB W M [])))) M
def R178_3:RegF:=λa e M n k=>e.g q0 λb=>e.g q1 λc=>e.g q4 λd=>(λW=>oA b (oA c (v_fa d 3 λf=>L M f λg=>v_nck b λh=>v_fa h 22 λl=>v_ixA l c 8 1 λm=>bR (stV M m g 1 λM=>k e M n) (keptB W M [])))) M
def R178_4:RegF:=λa e M n k=>e.g q0 λb=>oA b (v_nck b λc=>v_fa c 21 λd=>stV M d bt 1 λM=>k e M n)
def S178:List (P × I):=[(s0,q0),(s1,q1),(s2,q2),(s3,q3),(s9,q4),(s8,q5)]
def G178:F2:=.mk (λa e M n k=>R178_0 a e M n λe M n=>R61_2 a e M n λe M n=>R178_2 a e M n λe M n=>R178_3 a e M n λe M n=>R178_4 a e M n λe M n=>k .n e M n) [] [q0,q1,q2,q3]
def R179_0:RegF:=λa e M n k=>e.g q2 λb=>e.g q3 λc=>bxV 66 b M n λd M n=>bxV 70 c M n λf M n=>e.t q5 d λe=>Z e q6 f M n k
def R179_1:RegF:=λa e M n k=>e.g q0 λb=>e.g q1 λc=>e.g q5 λd=>e.g q6 λf=>oA b (oA c (ldW M d 9 true λ_ g=>ldW M f 3 true λ_ h=>callV a s174 [b,c,g,h] M n λl M n=>k e M n))
def R179_2:RegF:=λa e M n k=>e.g q0 λb=>e.g q1 λc=>oA b (v_nck b λd=>v_fa d 2 λf=>L M f λg=>oA c (v_ixS g c 21 λh=>Y e q4 h M n k))
def R179_3:RegF:=λa e M n k=>e.g q4 λb=>oA b (v_nck b λc=>v_fa c 7 λd=>L M d λf=>v_add f i1 λg=>v_nck b λh=>v_fa h 7 λl=>stV M l g 1 λM=>k e M n)
def R179_4:RegF:=λa e M n k=>e.g q4 λb=>oA b (oA b (v_bld [i0,i0,(.str [])] [] λc=>v_nck b λd=>v_fa d 10 λf=>stV M f i0 1 λM=>v_nck b λg=>v_fa g 11 λh=>stV M h c 3 λM=>k e M n))
def S179:List (P × I):=[(s0,q0),(s1,q1),(s2,q2),(s3,q3),(s8,q4),(s6,q5),(s7,q6)]
def G179:F2:=.mk (λa e M n k=>R179_0 a e M n λe M n=>R179_1 a e M n λe M n=>R179_2 a e M n λe M n=>R179_3 a e M n λe M n=>R179_4 a e M n λe M n=>k .n e M n) [] [q0,q1,q2,q3]
def R180_0:RegF:=λa e M n k=>alV 70 [i0,i0,(.str [])] M n λb M n=>Z e q1 b M n k
def R180_1:RegF:=λa e M n k=>e.g q0 λb=>e.g q1 λc=>oA b (v_bld [i0,i0,(.str [])] [(0,1,b)] λd=>stV M c d 3 λM=>k e M n)
def S180:List (P × I):=[(s0,q0),(s2,q1)]
def G180:F2:=.mk (λa e M n k=>R180_0 a e M n λe M n=>R180_1 a e M n λe M n=>k .r e M n) [.c q1 3 true] [q0]
def R181_0:RegF:=λa e M n k=>oA .nils (oA i0 (e.t q6 .nils λe=>Z e q7 i0 M n k))
def R181_2:RegF:=λa e M n k=>e.g q0 λb=>e.g q1 λc=>oA b (v_nck b λd=>v_fa d 1 λf=>L M f λg=>oA c (lkuV .nils false g c M λh=>Y e q3 h M n k))
def R181_3:RegF:=λa e M n k=>e.g q3 λb=>e.g q2 λc=>oA b (v_lenS b λd=>v_eq d i0 λf=>oA f (hM f M n b λg M n=>hM f M n b λh M n=>hP f M n (v_lenS h) λl M n=>hP f M n (v_sub l i1) λm M n=>hP f M n (v_ixS g m 2) λo M n=>hP f M n (v_fa o 0) λp M n=>hL f M n p λq M n=>hM f M n c λr M n=>hP f M n (v_ne q r) λs M n=>v_pick f bt s λt=>Z e q5 t M n k))
def R181_4:RegF:=λa e M n k=>e.g q0 λb=>e.g q1 λc=>e.g q3 λd=>(λW=>oA b (v_nck b λf=>v_fa f 1 λg=>L M g λh=>oA c (oA d (oA d (v_lenS d λl=>v_sub l i1 λm=>v_slH d m λo=>mupV h c o M λM=>bR (k e M n) (keptB W M [])))))) M
def R181_5:RegF:=λa e M n k=>e.g q0 λb=>e.g q2 λc=>oA b (oA c (bslV 3 1 1 [i0] [(0,1,c)] M n λd M n=>callV a s222 [b,d] M n λf M n=>oA f (oA i0 (e.t q6 f λe=>Z e q7 i0 M n k))))
def R181_6:RegF:=λa e M n k=>oA .nils (oA i6 (e.t q6 .nils λe=>Z e q7 i6 M n k))
def R181_7:RegF:=λa e M n k=>oA .nils (oA i1 (e.t q6 .nils λe=>Z e q7 i1 M n k))
def S181:List (P × I):=[(s0,q0),(s1,q1),(s2,q2),(s8,q3),(s10,q4),(s30,q5),(s6,q6),(s7,q7)]
def G181:F2:=.mk (λa e M n k=>R181_0 a e M n λe M n=>R68_0 a e M n λe M n=>C e q4 (R181_2 a e M n λe M n=>R181_3 a e M n λe M n=>C e q5 (R181_4 a e M n λe M n=>R181_5 a e M n λe M n=>k .r e M n) (R181_6 a e M n λe M n=>k .r e M n)) (R181_7 a e M n λe M n=>k .r e M n)) [.t q6,.t q7] [q0,q1,q2]
def R187_1:RegF:=λa e M n k=>e.g q3 λb=>v_fa b 4 λc=>v_fa c 0 λd=>L M d λf=>Z e q4 f M n k
def R187_2:RegF:=λa e M n k=>e.g q4 λb=>v_eq b i14 λc=>Y e q5 c M n k
def R187_3:RegF:=λa e M n k=>e.g q4 λb=>v_eq b i15 λc=>Y e q6 c M n k
def R187_4:RegF:=λa e M n k=>e.g q0 λb=>e.g q1 λc=>e.g q3 λd=>oA b (oA c (ldW M d 9 true λ_ f=>callV a s231 [b,c,f] M n λg M n=>k e M n))
def R187_5:RegF:=λa e M n k=>e.g q0 λb=>e.g q1 λc=>oA b (oA c (callV a s115 [b,c] M n λd M n=>Z e q7 d M n k))
def R187_6:RegF:=λa e M n k=>e.g q0 λb=>e.g q1 λc=>e.g q3 λd=>oA b (oA c (ldW M d 9 true λ_ f=>v_bld [i0,i0,(.str [])] [] λg=>callV a s174 [b,c,f,g] M n λh M n=>k e M n))
def R187_7:RegF:=λa e M n k=>e.g q0 λb=>e.g q1 λc=>e.g q3 λd=>oA b (oA c (v_fa d 4 λf=>v_fa f 1 λg=>L M g λh=>callV a s175 [b,c,h] M n λl M n=>k e M n))
def R187_8:RegF:=λa e M n k=>e.g q0 λb=>e.g q1 λc=>e.g q3 λd=>(λW=>oA b (oA c (ldV M d 9 true λf g=>callV a s180 [i6] M n λh M n=>callV a s179 [b,c,g,h] M n λl M n=>bR (k e M n) (keptB W M (f :: []))))) M
def R187_9:RegF:=λa e M n k=>e.g q0 λb=>e.g q1 λc=>e.g q3 λd=>oA b (oA c (ldW M d 9 true λ_ f=>callV a s230 [b,c,f] M n λg M n=>k e M n))
def S187:List (P × I):=[(s0,q0),(s1,q1),(s2,q2),(s5,q3),(s8,q4),(s13,q5),(s19,q6),(s23,q7)]
def G187:F2:=.mk (λa e M n k=>R119_0 a e M n λe M n=>R187_1 a e M n λe M n=>(λ(j0:K3)=>R187_2 a e M n λe M n=>(λ(j1:K3)=>C e q5 (R187_3 a e M n λe M n=>(λ(j2:K3)=>C e q6 (R187_4 a e M n j2) (R187_5 a e M n λe M n=>C e q7 (R187_6 a e M n λe M n=>R187_7 a e M n j2) (R187_8 a e M n λe M n=>k .r e M n))) j1) (R187_9 a e M n j1)) j0) λe M n=>k .n e M n) [] [q0,q1,q2]
def S188:List (P × I):=[(s0,q0),(s1,q1),(s8,q2),(s5,q3),(s7,q4),(s9,q5),(s16,q6),(s4,q7)]
def G188:F2:=.mk (λa e M n k=>R62_0 a e M n λe M n=>(λ(j0:K3)=>R62_2 a e M n λe M n=>(λ(j1:K3)=>loopK (λa e M n k=>R62_3 a e M n λe M n=>C e q5 (k (.x 0) e M n) (R62_4 a e M n λe M n=>R141_5 a e M n λe M n=>C e q6 (R14_15 a e M n λe M n=>k .n e M n) (R62_7 a e M n λe M n=>k .r e M n))) a e M n (X k j1 0)) j0) λe M n=>R62_1 a e M n λe M n=>k .r e M n) [.t q7] [q0,q1]
def R189_0:RegF:=λa e M n k=>alV 175 [i0,i0] M n λb M n=>Z e q2 b M n k
def R189_1:RegF:=λa e M n k=>e.g q1 λb=>e.g q0 λc=>oA b (v_lt b i0 λd=>oA d (hM d M n b λf M n=>hM d M n c λg M n=>hN d M n (λj=>callV a s74 [g] M n λv M n=>j v M n) λh M n=>hP d M n (v_le h f) λl M n=>v_pick d bt l λm=>Z e q3 m M n k))
def R189_2:RegF:=λa e M n k=>e.g q0 λb=>e.g q1 λc=>e.g q2 λd=>oA b (v_nck b λf=>v_fa f 0 λg=>L M g λh=>oA c (v_ixS h c 2 λl=>ldW M l 2 true λ_ m=>stV M d m 2 λM=>k e M n))
def R189_3:RegF:=λa e M n k=>e.g q2 λb=>v_bld [i0,i0] [] λc=>stV M b c 2 λM=>k e M n
def S189:List (P × I):=[(s0,q0),(s1,q1),(s4,q2),(s12,q3)]
def G189:F2:=.mk (λa e M n k=>R189_0 a e M n λe M n=>R189_1 a e M n λe M n=>C e q3 (R189_2 a e M n λe M n=>k .r e M n) (R189_3 a e M n λe M n=>k .r e M n)) [.c q2 2 true] [q0,q1]
def R190_5:RegF:=λa e M n k=>e.g q1 λb=>e.g q0 λc=>e.g q3 λd=>oA b (oA c (oA d (v_ixS c d 1 λf=>L M f λg=>v_eq b g λh=>Z e q6 h M n k)))
def S190:List (P × I):=[(s0,q0),(s1,q1),(s8,q2),(s5,q3),(s7,q4),(s9,q5),(s16,q6),(s4,q7)]
def G190:F2:=.mk (λa e M n k=>R62_0 a e M n λe M n=>(λ(j0:K3)=>R62_2 a e M n λe M n=>(λ(j1:K3)=>loopK (λa e M n k=>R62_3 a e M n λe M n=>C e q5 (k (.x 0) e M n) (R62_4 a e M n λe M n=>R190_5 a e M n λe M n=>C e q6 (R14_15 a e M n λe M n=>k .n e M n) (R62_7 a e M n λe M n=>k .r e M n))) a e M n (X k j1 0)) j0) λe M n=>R62_1 a e M n λe M n=>k .r e M n) [.t q7] [q0,q1]
def R191_0:RegF:=λa e M n k=>Y e q6 .nils M n k
def R191_1:RegF:=λa e M n k=>e.g q0 λb=>e.g q1 λc=>e.g q2 λd=>e.g q3 λf=>oA b (oA c (oA d (oA f (callV a s232 [b,c,d,f] M n λg M n=>Y e q5 g M n k))))
def R191_2:RegF:=λa e M n k=>e.g q5 λb=>e.g q6 λc=>oA b (v_le i0 b λd=>oA d (gM d M n c λf M n=>gM d M n b λg M n=>gN d M n (λj=>callV a s136 [f,g] M n λv M n=>j v M n) λh M n=>gP d M n (v_not h) λl M n=>v_pick d l bf λm=>Z e q7 m M n k))
def R191_3:RegF:=λa e M n k=>e.g q6 λb=>e.g q5 λc=>oA b (oA c (bslV 3 1 1 [i0] [(0,1,c)] M n λd M n=>appV 3 1 8 b d M n λf M n=>Y e q6 f M n k))
def R191_4:RegF:=λa e M n k=>e.g q4 λb=>e.g q5 λc=>oA b (oA c (cvV a b [c] M n λd M n=>k e M n))
def R191_5:RegF:=λa e M n k=>e.g q0 λb=>e.g q1 λc=>e.g q2 λd=>e.g q5 λf=>oA b (oA c (oA d (oA f (callV a s232 [b,c,d,f] M n λg M n=>Y e q5 g M n k))))
def S191:List (P × I):=[(s0,q0),(s1,q1),(s2,q2),(s3,q3),(s4,q4),(s11,q5),(s10,q6),(s24,q7)]
def G191:F2:=.mk (λa e M n k=>R191_0 a e M n λe M n=>R191_1 a e M n λe M n=>(λ(j0:K3)=>loopK (λa e M n k=>R191_2 a e M n λe M n=>C e q7 (k (.x 0) e M n) (R191_3 a e M n λe M n=>R191_4 a e M n λe M n=>R191_5 a e M n λe M n=>k .n e M n)) a e M n (X k j0 0)) λe M n=>k .n e M n) [] [q0,q1,q2,q3,q4]
def R194_0:RegF:=λa e M n k=>e.g q0 λb=>bxV 66 b M n λc M n=>alV 66 [i0,i0,i0,i0,i0,i0,i0,(.str []),(.str [])] M n λd M n=>oA bf (e.t q2 c λe=>e.t q1 d λe=>Z e q3 bf M n k)
def R194_1:RegF:=λa e M n k=>e.g q2 λb=>e.g q1 λc=>(λW=>v_fa b 1 λd=>ldV M d 1 false λf g=>v_bld [i0,i0,i0,i0,i0,i0,i0,(.str []),(.str [])] [(1,1,g)] λh=>v_fa b 1 λl=>L M l λm=>callV a s233 [m,i1,i1000] M n λo M n=>stV M c h 9 λM=>oA o (bR (Z e q3 o M n k) (keptB W M (f :: [])))) M
def S194:List (P × I):=[(s0,q0),(s2,q1),(s1,q2),(s3,q3)]
def G194:F2:=.mk (λa e M n k=>R194_0 a e M n λe M n=>R194_1 a e M n λe M n=>k .r e M n) [.c q1 9 true,.t q3] [q0]
def R195_1:RegF:=λa e M n k=>e.g q2 λb=>e.g q1 λc=>(λW=>v_fa b 1 λd=>ldV M d 1 false λf g=>v_bld [i0,i0,i0,i0,i0,i0,i0,(.str []),(.str [])] [(1,1,g)] λh=>v_fa b 1 λl=>L M l λm=>callV a s233 [m,i0,i5] M n λo M n=>stV M c h 9 λM=>oA o (bR (Z e q3 o M n k) (keptB W M (f :: [])))) M
def S195:List (P × I):=[(s0,q0),(s2,q1),(s1,q2),(s3,q3)]
def G195:F2:=.mk (λa e M n k=>R194_0 a e M n λe M n=>R195_1 a e M n λe M n=>k .r e M n) [.c q1 9 true,.t q3] [q0]
def R196_1:RegF:=λa e M n k=>e.g q2 λb=>e.g q1 λc=>(λW=>v_fa b 1 λd=>ldV M d 1 false λf g=>v_bld [i0,i0,i0,i0,i0,i0,i0,(.str []),(.str [])] [(1,1,g)] λh=>v_fa b 1 λl=>L M l λm=>callV a s233 [m,i0,i39] M n λo M n=>stV M c h 9 λM=>oA o (bR (Z e q3 o M n k) (keptB W M (f :: [])))) M
def S196:List (P × I):=[(s0,q0),(s2,q1),(s1,q2),(s3,q3)]
def G196:F2:=.mk (λa e M n k=>R194_0 a e M n λe M n=>R196_1 a e M n λe M n=>k .r e M n) [.c q1 9 true,.t q3] [q0]
def R199_1:RegF:=λa e M n k=>e.g q2 λb=>e.g q1 λc=>(λW=>v_fa b 4 λd=>ldV M d 5 true λf g=>v_bld [i0,i0,i0,i0,i0,i0,i0,(.str []),(.str [])] [(4,5,g)] λh=>v_fa b 4 λl=>ldW M l 5 true λ_ m=>callV a s234 [m] M n λo M n=>stV M c h 9 λM=>oA o (bR (Z e q3 o M n k) (keptB W M (f :: [])))) M
def S199:List (P × I):=[(s0,q0),(s2,q1),(s1,q2),(s3,q3)]
def G199:F2:=.mk (λa e M n k=>R194_0 a e M n λe M n=>R199_1 a e M n λe M n=>k .r e M n) [.c q1 9 true,.t q3] [q0]
def R206_0:RegF:=λa e M n k=>Y e q1 bf M n k
def R206_1:RegF:=λa e M n k=>e.g q0 λb=>oA b (oA b (v_ne b b λc=>Y e q1 c M n k))
def S206:List (P × I):=[(s0,q0),(s2,q1)]
def G206:F2:=.mk (λa e M n k=>R206_0 a e M n λe M n=>R206_1 a e M n λe M n=>k .r e M n) [.t q1] [q0]
def R207_1:RegF:=λa e M n k=>v_bld [.nils] [] λb=>bxV 348 b M n λc M n=>Y e q0 c M n k
def S207:List (P × I):=[(s0,q0)]
def G207:F2:=.mk (λa e M n k=>R96_0 a e M n λe M n=>R207_1 a e M n λe M n=>k .r e M n) [.t q0] []
def R208_1:RegF:=λa e M n k=>e.g q0 λb=>oA b (callV a s236 [b] M n λc M n=>alV 282 [.nils] M n λd M n=>stV M d c 1 λM=>Z e q4 d M n k)
def R208_2:RegF:=λa e M n k=>e.g q4 λb=>L M b λc=>Y e q10 c M n k
def R208_3:RegF:=λa e M n k=>e.g q0 λb=>oA b (v_lenS b λc=>oA i0 (e.t q7 b λe=>e.t q5 c λe=>Z e q3 i0 M n k))
def R208_5:RegF:=λa e M n k=>e.g q3 λb=>e.g q7 λc=>oA b (v_ixS c b 3 λd=>ldW M d 3 true λ_ f=>alV 99 [i0,i0,i0] M n λg M n=>oA b (stV M g f 3 λM=>e.t q9 g λe=>Z e q8 b M n k))
def R208_6:RegF:=λa e M n k=>e.g q1 λb=>e.g q2 λc=>e.g q0 λd=>e.g q8 λf=>e.g q4 λg=>e.g q9 λh=>oA b (oA c (oA d (v_lenS d λl=>oA f (v_mkf s237 [] [g,h] λm=>callV a s191 [b,c,l,f,m] M n λo M n=>k e M n))))
def S208:List (P × I):=[(s0,q0),(s1,q1),(s2,q2),(s14,q3),(s7,q4),(s13,q5),(s15,q6),(s12,q7),(s8,q8),(s9,q9),(s6,q10)]
def G208:F2:=.mk (λa e M n k=>R163_0 a e M n λe M n=>R208_1 a e M n λe M n=>(λ(j0:K3)=>R208_3 a e M n λe M n=>(λ(j1:K3)=>loopK (λa e M n k=>R68_2 a e M n λe M n=>C e q6 (k (.x 0) e M n) (R208_5 a e M n λe M n=>R208_6 a e M n λe M n=>R10_26 a e M n λe M n=>k .n e M n)) a e M n (X k j1 0)) j0) λe M n=>R208_2 a e M n λe M n=>k .r e M n) [.t q10] [q0,q1,q2]
def R209_0:RegF:=λa e M n k=>e.g q0 λb=>bxV 99 b M n λc M n=>oA bf (e.t q1 c λe=>Z e q6 bf M n k)
def R209_1:RegF:=λa e M n k=>e.g q1 λb=>v_fa b 0 λc=>L M c λd=>Z e q2 d M n k
def R209_2:RegF:=λa e M n k=>e.g q2 λb=>v_eq b i0 λc=>Y e q3 c M n k
def R209_3:RegF:=λa e M n k=>e.g q2 λb=>v_eq b i1 λc=>Y e q4 c M n k
def R209_4:RegF:=λa e M n k=>e.g q2 λb=>v_eq b i2 λc=>Y e q5 c M n k
def R209_6:RegF:=λa e M n k=>e.g q1 λb=>v_fa b 1 λc=>L M c λd=>v_le i0 d λf=>oA f (gP f M n (v_fa b 1) λg M n=>gL f M n g λh M n=>gP f M n (v_lt h i64) λl M n=>v_pick f l bf λm=>oA m (gP m M n (v_fa b 2) λo M n=>gL m M n o λp M n=>gP m M n (v_eq p i0) λq M n=>v_pick m q bf λr=>Y e q6 r M n k))
def R209_7:RegF:=λa e M n k=>e.g q1 λb=>v_fa b 1 λc=>L M c λd=>v_eq d i0 λf=>oA f (gP f M n (v_fa b 2) λg M n=>gL f M n g λh M n=>gP f M n (v_le i0 h) λl M n=>v_pick f l bf λm=>oA m (gP m M n (v_fa b 2) λo M n=>gL m M n o λp M n=>gP m M n (v_le p i1099511627776) λq M n=>v_pick m q bf λr=>Y e q6 r M n k))
def R209_8:RegF:=λa e M n k=>e.g q1 λb=>v_fa b 1 λc=>L M c λd=>v_le i0 d λf=>oA f (gP f M n (v_fa b 1) λg M n=>gL f M n g λh M n=>gP f M n (v_le h i15) λl M n=>v_pick f l bf λm=>oA m (gP m M n (v_fa b 2) λo M n=>gL m M n o λp M n=>gP m M n (v_eq p i0) λq M n=>v_pick m q bf λr=>Y e q6 r M n k))
def S209:List (P × I):=[(s0,q0),(s1,q1),(s4,q2),(s5,q3),(s20,q4),(s35,q5),(s2,q6)]
def G209:F2:=.mk (λa e M n k=>R209_0 a e M n λe M n=>R209_1 a e M n λe M n=>R209_2 a e M n λe M n=>C e q3 (R209_3 a e M n λe M n=>C e q4 (R209_4 a e M n λe M n=>C e q5 (R35_0 a e M n λe M n=>k .r e M n) (R209_6 a e M n λe M n=>k .r e M n)) (R209_7 a e M n λe M n=>k .r e M n)) (R209_8 a e M n λe M n=>k .r e M n)) [.t q6] [q0]
def R210_2:RegF:=λa e M n k=>e.g q0 λb=>e.g q1 λc=>oA b (v_nck b λd=>v_fa d 0 λf=>L M f λg=>oA c (lkuV (.agg [i0,i0,i0]) true g c M λh=>oA h (v_ext h 0 λl=>v_ext h 1 λm=>alV 99 [i0,i0,i0] M n λo M n=>stV M o l 3 λM=>Y e q3 m M n k)))
def S210:List (P × I):=[(s0,q0),(s1,q1),(s8,q2),(s6,q3),(s4,q4)]
def G210:F2:=.mk (λa e M n k=>R16_0 a e M n λe M n=>R30_1 a e M n λe M n=>C e q2 (R210_2 a e M n λe M n=>R147_3 a e M n λe M n=>k .r e M n) (R16_0 a e M n λe M n=>k .r e M n)) [.t q4] [q0,q1]
def R211_0:RegF:=λa e M n k=>e.g q2 λb=>bxV 99 b M n λc M n=>Z e q3 c M n k
def R211_1:RegF:=λa e M n k=>e.g q0 λb=>e.g q1 λc=>e.g q3 λd=>(λW=>oA b (v_nck b λf=>v_fa f 0 λg=>L M g λh=>oA c (ldW M d 3 true λ_ l=>mupV h c l M λM=>bR (k e M n) (keptB W M [])))) M
def R211_2:RegF:=λa e M n k=>e.g q3 λb=>v_fa b 0 λc=>L M c λd=>Z e q4 d M n k
def R211_3:RegF:=λa e M n k=>e.g q4 λb=>v_eq b i2 λc=>Y e q5 c M n k
def R211_4:RegF:=λa e M n k=>e.g q4 λb=>v_eq b i1 λc=>Y e q6 c M n k
def R211_5:RegF:=λa e M n k=>e.g q0 λb=>e.g q1 λc=>e.g q3 λd=>(λW=>oA b (v_nck b λf=>v_fa f 66 λg=>oA c (v_fa d 1 λh=>L M h λl=>callV a s239 [g,c,l] M n λm M n=>bR (k e M n) (keptB W M [])))) M
def R211_6:RegF:=λa e M n k=>e.g q0 λb=>e.g q1 λc=>e.g q3 λd=>(λW=>oA b (v_nck b λf=>v_fa f 131 λg=>L M g λh=>oA c (v_fa d 2 λl=>L M l λm=>callV a s240 [h,c,m] M n λo M n=>bR (k e M n) (keptB W M [])))) M
def R211_7:RegF:=λa e M n k=>e.g q0 λb=>e.g q1 λc=>e.g q3 λd=>(λW=>oA b (v_nck b λf=>v_fa f 1 λg=>oA c (v_fa d 1 λh=>L M h λl=>callV a s239 [g,c,l] M n λm M n=>bR (k e M n) (keptB W M [])))) M
def S211:List (P × I):=[(s0,q0),(s1,q1),(s2,q2),(s5,q3),(s13,q4),(s21,q5),(s30,q6)]
def G211:F2:=.mk (λa e M n k=>R211_0 a e M n λe M n=>R211_1 a e M n λe M n=>R211_2 a e M n λe M n=>(λ(j0:K3)=>R211_3 a e M n λe M n=>(λ(j1:K3)=>C e q5 (R211_4 a e M n λe M n=>(λ(j2:K3)=>C e q6 (R211_5 a e M n j2) (R211_6 a e M n j2)) j1) (R211_7 a e M n j1)) j0) λe M n=>k .n e M n) [] [q0,q1,q2]
def R212_1:RegF:=λa e M n k=>e.g q0 λb=>oA b (callV a s241 [b] M n λc M n=>v_sub i63 c λd=>Y e q1 d M n k)
def S212:List (P × I):=[(s0,q0),(s2,q1)]
def G212:F2:=.mk (λa e M n k=>R72_0 a e M n λe M n=>R212_1 a e M n λe M n=>k .r e M n) [.t q1] [q0]
def R213_0:RegF:=λa e M n k=>alV 329 [i0,i0] M n λb M n=>oA bf (e.t q1 b λe=>Z e q3 bf M n k)
def R213_1:RegF:=λa e M n k=>e.g q0 λb=>oA b (callV a s242 [b] M n λc M n=>v_eq c i0 λd=>Z e q2 d M n k)
def R213_2:RegF:=λa e M n k=>e.g q0 λb=>e.g q1 λc=>oA b (v_nck b λd=>v_fa d 0 λf=>L M f λg=>v_ixS g i0 2 λh=>ldW M h 2 true λ_ l=>stV M c l 2 λM=>Y e q3 bt M n k)
def R213_3:RegF:=λa e M n k=>e.g q1 λb=>v_bld [i0,i0] [] λc=>stV M b c 2 λM=>Y e q3 bf M n k
def S213:List (P × I):=[(s0,q0),(s2,q1),(s6,q2),(s3,q3)]
def G213:F2:=.mk (λa e M n k=>R213_0 a e M n λe M n=>R213_1 a e M n λe M n=>C e q2 (R213_2 a e M n λe M n=>k .r e M n) (R213_3 a e M n λe M n=>k .r e M n)) [.c q1 2 true,.t q3] [q0]
def R214_1:RegF:=λa e M n k=>e.g q0 λb=>e.g q1 λc=>oA b (oA c (callV a s189 [b,c] M n λd M n=>v_fd d 0 1 false λf=>Y e q2 f M n k))
def S214:List (P × I):=[(s0,q0),(s1,q1),(s4,q2)]
def G214:F2:=.mk (λa e M n k=>R35_3 a e M n λe M n=>R214_1 a e M n λe M n=>k .r e M n) [.t q2] [q0,q1]
def R216_0:RegF:=λa e M n k=>e.g q0 λb=>bxV 64 b M n λc M n=>oA i0 (e.t q1 c λe=>Z e q3 i0 M n k)
def R216_1:RegF:=λa e M n k=>e.g q1 λb=>ldW M b 5 true λ_ c=>callV a s234 [c] M n λd M n=>v_not d λf=>Z e q2 f M n k
def R216_2:RegF:=λa e M n k=>e.g q1 λb=>ldW M b 5 true λ_ c=>callV a s243 [c] M n λd M n=>v_add d i64 λf=>v_sub f i1 λg=>v_quo g i64 λh=>v_max h i1 λl=>Y e q3 l M n k
def S216:List (P × I):=[(s0,q0),(s1,q1),(s5,q2),(s2,q3)]
def G216:F2:=.mk (λa e M n k=>R216_0 a e M n λe M n=>R216_1 a e M n λe M n=>C e q2 (R216_2 a e M n λe M n=>k .r e M n) (R6_15 a e M n λe M n=>k .r e M n)) [.t q3] [q0]
def R217_0:RegF:=λa e M n k=>e.g q0 λb=>bxV 64 b M n λc M n=>oA i0 (e.t q2 c λe=>Z e q4 i0 M n k)
def R217_1:RegF:=λa e M n k=>e.g q1 λb=>e.g q2 λc=>oA b (v_lt b i0 λd=>oA d (hM d M n b λf M n=>gdK d false .off M n (λj=>ldW M c 5 true λ_ v=>j v M n) λg M n=>hN d M n (λj=>callV a s216 [g] M n λv M n=>j v M n) λh M n=>hP d M n (v_le h f) λl M n=>v_pick d bt l λm=>Z e q3 m M n k))
def R217_2:RegF:=λa e M n k=>e.g q2 λb=>e.g q1 λc=>ldW M b 5 true λ_ d=>callV a s243 [d] M n λf M n=>oA c (v_mul i64 c λg=>v_sub f g λh=>v_min h i64 λl=>Y e q4 l M n k)
def S217:List (P × I):=[(s0,q0),(s1,q1),(s2,q2),(s12,q3),(s4,q4)]
def G217:F2:=.mk (λa e M n k=>R217_0 a e M n λe M n=>R217_1 a e M n λe M n=>C e q3 (R217_2 a e M n λe M n=>k .r e M n) (R6_7 a e M n λe M n=>k .r e M n)) [.t q4] [q0,q1]
def R220_2:RegF:=λa e M n k=>e.g q0 λb=>e.g q1 λc=>e.g q2 λd=>oA b (v_nck b λf=>v_fa f 3 λg=>L M g λh=>oA c (oA d (callV a s245 [h,c,d] M n λl M n=>Y e q3 l M n k)))
def R220_3:RegF:=λa e M n k=>e.g q3 λb=>oA b (v_ne b i0 λc=>Z e q5 c M n k)
def R220_4:RegF:=λa e M n k=>e.g q0 λb=>e.g q1 λc=>oA b (v_nck b λd=>v_fa d 2 λf=>L M f λg=>oA c (callV a s246 [g,c] M n λh M n=>Y e q6 h M n k))
def R220_6:RegF:=λa e M n k=>Y e q6 i1 M n k
def S220:List (P × I):=[(s0,q0),(s1,q1),(s2,q2),(s7,q3),(s9,q4),(s18,q5),(s6,q6)]
def G220:F2:=.mk (λa e M n k=>R19_4 a e M n λe M n=>R68_0 a e M n λe M n=>C e q4 (R220_2 a e M n λe M n=>R220_3 a e M n λe M n=>C e q5 (R220_4 a e M n λe M n=>k .r e M n) (R79_4 a e M n λe M n=>k .r e M n)) (R220_6 a e M n λe M n=>k .r e M n)) [.t q6] [q0,q1,q2]
def R221_0:RegF:=λa e M n k=>e.g q0 λb=>oA b (v_nck b λc=>v_fa c 2 λd=>L M d λf=>v_lenS f λg=>oA i0 (e.t q4 f λe=>e.t q2 g λe=>Z e q1 i0 M n k))
def R221_1:RegF:=λa e M n k=>e.g q1 λb=>e.g q2 λc=>v_lt b c λd=>Z e q3 d M n k
def R221_3:RegF:=λa e M n k=>e.g q1 λb=>e.g q4 λc=>oA b (v_ixS c b 21 λd=>ldW M d 21 true λ_ f=>alV 102 (rep 9 i0 ++ [bf,i0,i0,i0,(.str []),bf,i0,i0,i0,i0,i0,.nils]) M n λg M n=>oA b (stV M g f 21 λM=>e.t q5 g λe=>Z e q7 b M n k))
def R221_4:RegF:=λa e M n k=>e.g q5 λb=>v_fa b 5 λc=>L M c λd=>v_eq d i5 λf=>oA f (hP f M n (v_fa b 5) λg M n=>hL f M n g λh M n=>hP f M n (v_eq h i6) λl M n=>v_pick f bt l λm=>Z e q6 m M n k)
def R221_5:RegF:=λa e M n k=>e.g q0 λb=>e.g q7 λc=>oA b (oA c (callV a s58 [b,c] M n λd M n=>k e M n))
def S221:List (P × I):=[(s0,q0),(s9,q1),(s8,q2),(s10,q3),(s7,q4),(s3,q5),(s21,q6),(s2,q7)]
def G221:F2:=.mk (λa e M n k=>R221_0 a e M n λe M n=>(λ(j0:K3)=>loopK (λa e M n k=>R221_1 a e M n λe M n=>C e q3 (k (.x 0) e M n) ((λ(j1:K3)=>(λ(j2:K3)=>R221_3 a e M n λe M n=>R221_4 a e M n λe M n=>(λ(j3:K3)=>C e q6 (j3 e M n) (R221_5 a e M n j3)) j2) j1) λe M n=>R28_9 a e M n λe M n=>k .n e M n)) a e M n (X k j0 0)) λe M n=>k .n e M n) [] [q0]
def R222_3:RegF:=λa e M n k=>e.g q0 λb=>oA b (v_nck b λc=>v_fa c 2 λd=>L M d λf=>callV a s248 [f] M n λg M n=>callV a s247 [g] M n λh M n=>v_lenS h λl=>oA i0 (e.t q7 h λe=>e.t q5 l λe=>Z e q2 i0 M n k))
def R222_6:RegF:=λa e M n k=>e.g q7 λb=>e.g q2 λc=>v_ixS b c 1 λd=>L M d λf=>Y e q3 f M n k
def R222_7:RegF:=λa e M n k=>e.g q1 λb=>e.g q0 λc=>e.g q3 λd=>oA b (oA c (v_nck c λf=>v_fa f 2 λg=>L M g λh=>oA d (lkuV i0 false h d M λl=>callV a s136 [b,l] M n λm M n=>Z e q8 m M n k)))
def R222_8:RegF:=λa e M n k=>e.g q0 λb=>e.g q3 λc=>oA b (v_nck b λd=>v_fa d 2 λf=>L M f λg=>oA c (mdlV g c M λM=>k e M n))
def R222_9:RegF:=λa e M n k=>e.g q4 λb=>e.g q3 λc=>oA b (oA c (bslV 3 1 1 [i0] [(0,1,c)] M n λd M n=>appV 3 1 8 b d M n λf M n=>Y e q4 f M n k))
def S222:List (P × I):=[(s0,q0),(s1,q1),(s15,q2),(s7,q3),(s5,q4),(s14,q5),(s16,q6),(s13,q7),(s26,q8),(s4,q9)]
def G222:F2:=.mk (λa e M n k=>R77_0 a e M n λe M n=>R19_3 a e M n λe M n=>(λ(j0:K3)=>R222_3 a e M n λe M n=>(λ(j1:K3)=>loopK (λa e M n k=>R133_4 a e M n λe M n=>C e q6 (k (.x 0) e M n) ((λ(j2:K3)=>(λ(j3:K3)=>R222_6 a e M n λe M n=>R222_7 a e M n λe M n=>(λ(j4:K3)=>C e q8 (j4 e M n) (R222_8 a e M n λe M n=>R222_9 a e M n j4)) j3) j2) λe M n=>R14_15 a e M n λe M n=>k .n e M n)) a e M n (X k j1 0)) j0) λe M n=>R133_2 a e M n λe M n=>k .r e M n) [.t q9] [q0,q1]
def R223_0:RegF:=λa e M n k=>e.g q0 λb=>bxV 102 b M n λc M n=>alV 102 (rep 9 i0 ++ [bf,i0,i0,i0,(.str []),bf,i0,i0,i0,i0,i0,.nils]) M n λd M n=>alV 60 [i0,i0,i0,i0,i0,bf] M n λf M n=>e.t q3 c λe=>e.t q4 d λe=>Z e q5 f M n k
def R223_1:RegF:=λa e M n k=>e.g q3 λb=>e.g q1 λc=>e.g q2 λd=>v_fa b 0 λf=>L M f λg=>v_fa b 15 λh=>L M h λl=>v_fa b 16 λm=>L M m λo=>oA c (v_fa b 17 λp=>L M p λq=>oA d (v_bld [i0,i0,i0,i0,i0,bf] [(0,1,g),(1,1,l),(2,1,o),(3,1,c),(4,1,q),(5,1,d)] λr=>alV 60 [i0,i0,i0,i0,i0,bf] M n λs M n=>stV M s r 6 λM=>Z e q6 s M n k))
def R223_2:RegF:=λa e M n k=>e.g q3 λb=>v_fa b 5 λc=>stV M c i0 1 λM=>v_fa b 14 λd=>stV M d bf 1 λM=>v_fa b 9 λf=>stV M f bf 1 λM=>v_fa b 6 λg=>stV M g m0 1 λM=>k e M n
def R223_3:RegF:=λa e M n k=>e.g q3 λb=>v_bld [i0,i0,(.str [])] [] λc=>v_fa b 7 λd=>stV M d i0 1 λM=>v_fa b 8 λf=>stV M f i0 1 λM=>v_fa b 10 λg=>stV M g i0 1 λM=>v_fa b 17 λh=>stV M h i0 1 λM=>v_fa b 11 λl=>stV M l c 3 λM=>k e M n
def R223_4:RegF:=λa e M n k=>e.g q3 λb=>e.g q6 λc=>e.g q4 λd=>e.g q5 λf=>(λW=>ldW M b 21 true λ_ g=>callV a s114 [g] M n λh M n=>ldV M c 6 true λl m=>stV M d h 21 λM=>bR (stV M f m 6 λM=>k e M n) (keptB W M (l :: []))) M
def S223:List (P × I):=[(s0,q0),(s1,q1),(s2,q2),(s3,q3),(s6,q4),(s7,q5),(s8,q6)]
def G223:F2:=.mk (λa e M n k=>R223_0 a e M n λe M n=>R223_1 a e M n λe M n=>R223_2 a e M n λe M n=>R223_3 a e M n λe M n=>R223_4 a e M n λe M n=>k .r e M n) [.c q4 21 true,.c q5 6 true] [q0,q1,q2]
def R226_0:RegF:=λa e M n k=>oA i0 (oA bf (e.t q8 i0 λe=>Z e q9 bf M n k))
def R226_1:RegF:=λa e M n k=>e.g q0 λb=>oA b (v_lenS b λc=>Y e q4 c M n k)
def R226_2:RegF:=λa e M n k=>e.g q4 λb=>oA b (oA i0 (oA b (e.t q2 i0 λe=>Z e q5 b M n k)))
def R226_3:RegF:=λa e M n k=>e.g q2 λb=>e.g q5 λc=>oA b (oA c (v_lt b c λd=>Z e q6 d M n k))
def R226_4:RegF:=λa e M n k=>e.g q2 λb=>e.g q5 λc=>oA b (oA c (v_add b c λd=>v_conv .u64 d λf=>v_kop .shr f (.int .u64 (.ofNat 1)) λg=>v_conv .i64 g λh=>Y e q3 h M n k))
def R226_5:RegF:=λa e M n k=>e.g q0 λb=>e.g q3 λc=>e.g q1 λd=>oA b (oA c (v_ixS b c 1 λf=>L M f λg=>oA d (callV a s153 [g,d] M n λh M n=>Z e q7 h M n k)))
def R226_6:RegF:=λa e M n k=>e.g q3 λb=>oA b (v_add b i1 λc=>Y e q2 c M n k)
def R226_7:RegF:=λa e M n k=>e.g q3 λb=>oA b (Y e q5 b M n k)
def R226_8:RegF:=λa e M n k=>e.g q2 λb=>e.g q4 λc=>e.g q0 λd=>e.g q1 λf=>oA b (oA b (oA c (v_lt b c λg=>oA g (gM g M n d λh M n=>gM g M n b λl M n=>gP g M n (v_ixS h l 1) λm M n=>gL g M n m λo M n=>gM g M n f λp M n=>gP g M n (v_eq o p) λq M n=>gM g M n q λr M n=>hM r M n d λs M n=>hM r M n b λt M n=>hP r M n (v_ixS s t 1) λu M n=>hL r M n u λw M n=>hN r M n (λj=>callV a s249 [w] M n λv M n=>j v M n) λx M n=>hM r M n x λy M n=>gM y M n f λz M n=>gN y M n (λj=>callV a s249 [z] M n λv M n=>j v M n) λA M n=>hP r M n (v_pick y A bf) λB M n=>gP g M n (v_pick r bt B) λC M n=>v_pick g C bf λD=>oA b (oA D (e.t q8 b λe=>Z e q9 D M n k))))))
def S226:List (P × I):=[(s0,q0),(s1,q1),(s7,q2),(s9,q3),(s6,q4),(s8,q5),(s15,q6),(s27,q7),(s4,q8),(s5,q9)]
def G226:F2:=.mk ((c_seq (c_fn R226_0) (c_seq (c_fn R226_1) (c_seq (c_fn R226_2) (c_seq (c_blk 0 (loopK (c_seq (c_seq (c_fn R226_3) (c_cond (.t q6) c_skip (c_exit 0))) (c_blk 1 (c_seq (c_fn R226_4) (c_seq (c_fn R226_5) (c_cond (.t q7) (c_fn R226_6) (c_fn R226_7)))))))) (c_seq (c_fn R226_8) c_ret)))))) [.t q8,.t q9] [q0,q1]
def R227_1:RegF:=λa e M n k=>e.g q0 λb=>e.g q1 λc=>oA b (oA c (v_slL b c 1 λd=>k e M n))
def R227_2:RegF:=λa e M n k=>e.g q2 λb=>oA b (v_lenS b λc=>Y e q3 c M n k)
def R227_3:RegF:=λa e M n k=>e.g q3 λb=>oA b (v_eq b i0 λc=>Z e q6 c M n k)
def R227_5:RegF:=λa e M n k=>e.g q1 λb=>e.g q4 λc=>oA b (oA c (v_eq b c λd=>Z e q7 d M n k))
def R227_6:RegF:=λa e M n k=>e.g q4 λb=>e.g q3 λc=>e.g q0 λd=>oA b (oA c (v_add b c λf=>oA d (v_mv (.no) λg=>v_lt g f λh=>Z e q8 h M n k)))
def R227_7:RegF:=λa e M n k=>e.g q0 λb=>e.g q4 λc=>e.g q3 λd=>oA b (oA c (oA d (v_add c d λf=>v_slH b f λg=>Y e q0 g M n k)))
def R227_8:RegF:=λa e M n k=>e.g q2 λb=>e.g q0 λc=>e.g q1 λd=>e.g q3 λf=>oA b (oA c (oA d (oA f (v_add d f λg=>v_slL c g 1 λh=>callV a s250 [b,h] M n λl M n=>v_not l λm=>Z e q9 m M n k))))
def R227_9:RegF:=λa e M n k=>e.g q0 λb=>e.g q4 λc=>e.g q2 λd=>oA b (oA c (v_slL b c 1 λf=>oA d (cpyV 1 f d M n λg M n=>k e M n)))
def R227_10:RegF:=λa e M n k=>e.g q0 λb=>e.g q1 λc=>e.g q3 λd=>oA b (oA c (v_slL b c 1 λf=>oA d (callV a s251 [f,d] M n λg M n=>k e M n)))
def R227_11:RegF:=λa e M n k=>e.g q0 λb=>oA b (Y e q10 b M n k)
def R227_12:RegF:=λa e M n k=>e.g q0 λb=>e.g q1 λc=>e.g q3 λd=>(λW=>oA b (oA c (oA d (v_add c d λf=>v_slL b f 1 λg=>oA b (oA c (v_slL b c 1 λh=>cpyV 1 g h M n λl M n=>bR (k e M n) (keptB W M []))))))) M
def R227_13:RegF:=λa e M n k=>e.g q0 λb=>e.g q1 λc=>e.g q2 λd=>oA b (oA c (v_slL b c 1 λf=>oA d (cpyV 1 f d M n λg M n=>k e M n)))
def R227_15:RegF:=λa e M n k=>e.g q0 λb=>e.g q1 λc=>e.g q4 λd=>e.g q3 λf=>oA b (oA c (v_slH b c λg=>oA d (oA f (v_add d f λh=>oA c (v_sub h c λl=>v_mv (.no) λm=>Y e q5 m M n k)))))
def R227_16:RegF:=λa e M n k=>e.g q5 λb=>e.g q1 λc=>e.g q2 λd=>oA b (oA c (v_slL b c 1 λf=>oA d (cpyV 1 f d M n λg M n=>k e M n)))
def R227_17:RegF:=λa e M n k=>e.g q5 λb=>e.g q1 λc=>e.g q3 λd=>e.g q0 λf=>(λW=>oA b (oA c (oA d (v_add c d λg=>v_slL b g 1 λh=>oA f (oA c (v_slL f c 1 λl=>cpyV 1 h l M n λm M n=>bR (k e M n) (keptB W M []))))))) M
def R227_18:RegF:=λa e M n k=>e.g q5 λb=>oA b (Y e q10 b M n k)
def R227_19:RegF:=λa e M n k=>e.g q0 λb=>e.g q2 λc=>oA b (oA c (appV 3 1 8 b c M n λd M n=>Y e q10 d M n k))
def S227:List (P × I):=[(s0,q0),(s1,q1),(s2,q2),(s7,q3),(s8,q4),(s9,q5),(s16,q6),(s22,q7),(s31,q8),(s68,q9),(s6,q10)]
def G227:F2:=.mk (λa e M n k=>R163_0 a e M n λe M n=>R227_1 a e M n λe M n=>R227_2 a e M n λe M n=>R227_3 a e M n λe M n=>C e q6 (R226_1 a e M n λe M n=>R227_5 a e M n λe M n=>C e q7 (R227_6 a e M n λe M n=>C e q8 (R227_7 a e M n λe M n=>R227_8 a e M n λe M n=>C e q9 (R227_9 a e M n λe M n=>R227_10 a e M n λe M n=>R227_11 a e M n λe M n=>k .r e M n) (R227_12 a e M n λe M n=>R227_13 a e M n λe M n=>R227_11 a e M n λe M n=>k .r e M n)) (R227_15 a e M n λe M n=>R227_16 a e M n λe M n=>R227_17 a e M n λe M n=>R227_18 a e M n λe M n=>k .r e M n)) (R227_19 a e M n λe M n=>k .r e M n)) (R227_11 a e M n λe M n=>k .r e M n)) [.t q10] [q0,q1,q2]
def R228_0:RegF:=λa e M n k=>e.g q0 λb=>e.g q1 λc=>bxV 99 b M n λd M n=>bxV 99 c M n λf M n=>oA i0 (e.t q2 d λe=>e.t q3 f λe=>Z e q7 i0 M n k)
def R228_1:RegF:=λa e M n k=>e.g q2 λb=>e.g q3 λc=>v_fa b 0 λd=>L M d λf=>v_fa c 0 λg=>L M g λh=>v_ne f h λl=>Z e q4 l M n k
def R228_2:RegF:=λa e M n k=>oA (.fn s253 [] []) (e.t q6 (.fn s253 [] []) λe=>k e M n)
def R228_3:RegF:=λa e M n k=>e.g q6 λb=>e.g q2 λc=>e.g q3 λd=>oA b (ldW M c 3 true λ_ f=>ldW M d 3 true λ_ g=>cvV a b [f,g] M n λh M n=>Y e q7 h M n k)
def R228_4:RegF:=λa e M n k=>e.g q2 λb=>v_fa b 0 λc=>L M c λd=>v_eq d i1 λf=>Z e q5 f M n k
def R228_5:RegF:=λa e M n k=>oA (.fn s254 [] []) (e.t q6 (.fn s254 [] []) λe=>k e M n)
def R228_6:RegF:=λa e M n k=>e.g q2 λb=>e.g q3 λc=>v_fa b 0 λd=>L M d λf=>v_fa c 0 λg=>L M g λh=>callV a s252 [f,h] M n λl M n=>Y e q7 l M n k
def S228:List (P × I):=[(s0,q0),(s1,q1),(s2,q2),(s3,q3),(s10,q4),(s18,q5),(s5,q6),(s4,q7)]
def G228:F2:=.mk (λa e M n k=>R228_0 a e M n λe M n=>R228_1 a e M n λe M n=>C e q4 (R228_2 a e M n λe M n=>(λ(j0:K3)=>R228_4 a e M n λe M n=>(λ(j1:K3)=>C e q5 (j1 e M n) (R228_5 a e M n j1)) j0) λe M n=>R228_3 a e M n λe M n=>k .r e M n) (R228_6 a e M n λe M n=>k .r e M n)) [.t q7] [q0,q1]
def R230_1:RegF:=λa e M n k=>e.g q0 λb=>oA b (v_nck b λc=>v_fa c 2 λd=>L M d λf=>v_lenS f λg=>Y e q3 g M n k)
def R230_3:RegF:=λa e M n k=>e.g q5 λb=>oA b (v_ne b i0 λc=>Z e q9 c M n k)
def R230_4:RegF:=λa e M n k=>e.g q3 λb=>e.g q0 λc=>e.g q1 λd=>oA b (oA c (v_nck c λf=>v_fa f 2 λg=>L M g λh=>oA d (v_ixS h d 21 λl=>v_fa l 2 λm=>v_fa m 1 λo=>L M o λp=>v_bld [i0,.nils] [(0,1,p)] λq=>callV a s43 [b,q] M n λr M n=>alV 102 (rep 9 i0 ++ [bf,i0,i0,i0,(.str []),bf,i0,i0,i0,i0,i0,.nils]) M n λs M n=>stV M s r 21 λM=>Z e q6 s M n k)))
def R230_5:RegF:=λa e M n k=>e.g q1 λb=>e.g q4 λc=>e.g q6 λd=>(λW=>oA b (v_fa c 4 λf=>v_fa f 1 λg=>ldV M g 1 false λh l=>v_fa d 1 λm=>stV M m b 1 λM=>v_fa d 7 λo=>bR (stV M o l 1 λM=>k e M n) (keptB W M (h :: [])))) M
def R230_6:RegF:=λa e M n k=>e.g q0 λb=>e.g q6 λc=>e.g q1 λd=>(λW=>oA b (ldW M c 21 true λ_ f=>oA b (v_nck b λg=>v_fa g 3 λh=>L M h λl=>oA d (v_ixS l d 1 λm=>L M m λo=>callV a s40 [b,f,o] M n λp M n=>bR (k e M n) (keptB W M []))))) M
def R230_7:RegF:=λa e M n k=>e.g q0 λb=>e.g q1 λc=>e.g q4 λd=>e.g q3 λf=>oA b (oA c (ldW M d 9 true λ_ g=>oA f (v_bld [i0,i0,(.str [])] [(1,1,f)] λh=>callV a s179 [b,c,g,h] M n λl M n=>k e M n)))
def R230_9:RegF:=λa e M n k=>e.g q0 λb=>e.g q1 λc=>e.g q4 λd=>e.g q5 λf=>(λW=>oA b (oA c (ldV M d 9 true λg h=>oA f (callV a s180 [f] M n λl M n=>callV a s179 [b,c,h,l] M n λm M n=>bR (k e M n) (keptB W M (g :: [])))))) M
def R230_10:RegF:=λa e M n k=>e.g q0 λb=>e.g q1 λc=>oA b (oA c (callV a s115 [b,c] M n λd M n=>Y e q7 d M n k))
def R230_11:RegF:=λa e M n k=>e.g q3 λb=>oA b (v_le i20 b λc=>Y e q8 c M n k)
def R230_12:RegF:=λa e M n k=>e.g q0 λb=>e.g q1 λc=>e.g q3 λd=>oA b (v_nck b λf=>v_fa f 10 λg=>L M g λh=>oA c (oA d (callV a s257 [h,c,d] M n λl M n=>Y e q5 l M n k)))
def R230_13:RegF:=λa e M n k=>Y e q5 i17 M n k
def S230:List (P × I):=[(s0,q0),(s1,q1),(s2,q2),(s6,q3),(s5,q4),(s7,q5),(s8,q6),(s21,q7),(s25,q8),(s29,q9)]
def G230:F2:=.mk (λa e M n k=>R126_0 a e M n λe M n=>R230_1 a e M n λe M n=>R51_0 a e M n λe M n=>(λ(j0:K3)=>(λ(j1:K3)=>R230_10 a e M n λe M n=>(λ(j2:K3)=>C e q7 (R230_11 a e M n λe M n=>(λ(j3:K3)=>C e q8 (R230_12 a e M n j3) (R230_13 a e M n j3)) j2) (R121_1 a e M n j2)) j1) j0) λe M n=>R230_3 a e M n λe M n=>C e q9 (R230_4 a e M n λe M n=>R230_5 a e M n λe M n=>R230_6 a e M n λe M n=>R230_7 a e M n λe M n=>R175_2 a e M n λe M n=>k .n e M n) (R230_9 a e M n λe M n=>k .r e M n)) [] [q0,q1,q2]
def R231_1:RegF:=λa e M n k=>e.g q0 λb=>e.g q1 λc=>e.g q3 λd=>(λW=>oA b (v_nck b λf=>v_fa f 2 λg=>ldV M g 1 false λh l=>oA c (v_ixS l c 21 λm=>v_fa m 10 λo=>ldV M o 1 false λp q=>v_fa d 4 λr=>ldW M r 5 true λ_ s=>oA b (v_nck b λt=>v_fa t 2 λu=>L M u λw=>oA c (v_ixS w c 21 λx=>v_fa x 10 λy=>L M y λz=>callV a s217 [s,z] M n λA M n=>oA q (oA A (bR (e.t q8 q λe=>Z e q7 A M n k) (keptB W M (p :: (h :: [])))))))))) M
def R231_2:RegF:=λa e M n k=>e.g q3 λb=>v_fa b 4 λc=>ldW M c 5 true λ_ d=>alV 64 [i0,i0,i0,(.str []),(.str [])] M n λf M n=>stV M f d 5 λM=>Z e q6 f M n k
def R231_3:RegF:=λa e M n k=>e.g q0 λb=>e.g q1 λc=>e.g q6 λd=>(λW=>oA b (v_nck b λf=>v_fa f 10 λg=>L M g λh=>oA c (ldW M d 5 true λ_ l=>callV a s258 [h,c,l] M n λm M n=>alV 70 [i0,i0,(.str [])] M n λo M n=>bR (stV M o m 3 λM=>Z e q4 o M n k) (keptB W M [])))) M
def R231_4:RegF:=λa e M n k=>e.g q0 λb=>e.g q1 λc=>oA b (v_nck b λd=>v_fa d 2 λf=>L M f λg=>oA c (v_ixS g c 21 λh=>Y e q5 h M n k))
def R231_5:RegF:=λa e M n k=>e.g q6 λb=>v_fa b 0 λc=>L M c λd=>callV a s259 [d] M n λf M n=>Y e q10 f M n k
def R231_6:RegF:=λa e M n k=>e.g q4 λb=>e.g q8 λc=>v_fa b 0 λd=>L M d λf=>v_ne f i0 λg=>oA g (gM g M n c λh M n=>gP g M n (v_lt i0 h) λl M n=>v_pick g l bf λm=>Y e q13 m M n k)
def R231_7:RegF:=λa e M n k=>e.g q4 λb=>e.g q10 λc=>e.g q0 λd=>e.g q1 λf=>v_fa b 0 λg=>L M g λh=>v_eq h i17 λl=>oA l (gM l M n c λm M n=>gP l M n (v_ne m i0) λo M n=>v_pick l o bf λp=>oA p (gM p M n d λq M n=>gM p M n f λr M n=>gN p M n (λj=>callV a s115 [q,r] M n λv M n=>j v M n) λs M n=>gP p M n (v_not s) λt M n=>v_pick p t bf λu=>Y e q14 u M n k))
def R231_8:RegF:=λa e M n k=>e.g q4 λb=>v_fa b 0 λc=>L M c λd=>v_ne d i0 λf=>Y e q16 f M n k
def R231_9:RegF:=λa e M n k=>e.g q5 λb=>e.g q4 λc=>(λW=>oA b (v_nck b λd=>v_fa d 11 λf=>v_fa f 1 λg=>L M g λh=>v_fa c 1 λl=>L M l λm=>v_add h m λo=>v_nck b λp=>v_fa p 11 λq=>v_fa q 1 λr=>bR (stV M r o 1 λM=>k e M n) (keptB W M []))) M
def R231_10:RegF:=λa e M n k=>e.g q5 λb=>e.g q4 λc=>(λW=>oA b (v_nck b λd=>v_fa d 11 λf=>v_fa f 2 λg=>L M g λh=>v_fa c 2 λl=>L M l λm=>v_cat h m λo=>v_nck b λp=>v_fa p 11 λq=>v_fa q 2 λr=>bR (stV M r o 1 λM=>k e M n) (keptB W M []))) M
def R231_12:RegF:=λa e M n k=>e.g q8 λb=>e.g q3 λc=>e.g q4 λd=>e.g q7 λf=>oA b (v_add b i1 λg=>v_fa c 4 λh=>ldW M h 5 true λ_ l=>callV a s216 [l] M n λm M n=>v_lt g m λo=>oA o (gP o M n (v_fa d 1) λp M n=>gL o M n p λq M n=>gM o M n f λr M n=>gP o M n (v_eq q r) λs M n=>v_pick o s bf λt=>Z e q17 t M n k))
def R231_13:RegF:=λa e M n k=>e.g q0 λb=>e.g q1 λc=>e.g q3 λd=>e.g q5 λf=>(λW=>oA b (oA c (ldW M d 9 true λ_ g=>oA f (v_nck f λh=>v_fa h 11 λl=>ldW M l 3 true λ_ m=>callV a s179 [b,c,g,m] M n λo M n=>bR (k e M n) (keptB W M []))))) M
def R231_14:RegF:=λa e M n k=>e.g q5 λb=>oA b (v_nck b λc=>v_fa c 10 λd=>L M d λf=>v_add f i1 λg=>v_nck b λh=>v_fa h 10 λl=>stV M l g 1 λM=>k e M n)
def R231_15:RegF:=λa e M n k=>e.g q0 λb=>e.g q1 λc=>e.g q3 λd=>e.g q4 λf=>(λW=>oA b (oA c (ldV M d 9 true λg h=>v_fa f 0 λl=>L M l λm=>callV a s180 [m] M n λo M n=>callV a s179 [b,c,h,o] M n λp M n=>bR (k e M n) (keptB W M (g :: []))))) M
def R231_16:RegF:=λa e M n k=>e.g q0 λb=>e.g q1 λc=>oA b (oA c (callV a s168 [b,c] M n λd M n=>v_lenS d λf=>v_lt i0 f λg=>Z e q15 g M n k))
def R231_17:RegF:=λa e M n k=>e.g q5 λb=>e.g q10 λc=>oA b (oA c (v_nck b λd=>v_fa d 5 λf=>stV M f c 1 λM=>k e M n))
def R231_18:RegF:=λa e M n k=>e.g q0 λb=>e.g q1 λc=>e.g q3 λd=>(λW=>oA b (oA c (ldV M d 9 true λf g=>callV a s180 [i21] M n λh M n=>callV a s179 [b,c,g,h] M n λl M n=>bR (k e M n) (keptB W M (f :: []))))) M
def R231_20:RegF:=λa e M n k=>e.g q6 λb=>v_fa b 0 λc=>L M c λd=>Z e q9 d M n k
def R231_21:RegF:=λa e M n k=>e.g q9 λb=>v_eq b i3 λc=>Y e q11 c M n k
def R231_22:RegF:=λa e M n k=>e.g q9 λb=>v_eq b i4 λc=>Y e q12 c M n k
def R231_23:RegF:=λa e M n k=>e.g q6 λb=>e.g q8 λc=>e.g q7 λd=>v_fa b 3 λf=>L M f λg=>oA c (v_mul i64 c λh=>oA c (v_mul i64 c λl=>oA d (v_add l d λm=>v_ssl g (some h) (some m) λo=>v_fa b 3 λp=>stV M p o 1 λM=>k e M n)))
def R231_24:RegF:=λa e M n k=>e.g q7 λb=>e.g q6 λc=>oA b (v_fa c 2 λd=>stV M d b 1 λM=>k e M n)
def S231:List (P × I):=[(s0,q0),(s1,q1),(s2,q2),(s5,q3),(s9,q4),(s10,q5),(s8,q6),(s7,q7),(s6,q8),(s34,q9),(s11,q10),(s35,q11),(s39,q12),(s118,q13),(s134,q14),(s152,q15),(s162,q16),(s100,q17)]
def G231:F2:=.mk (λa e M n k=>R119_0 a e M n λe M n=>R231_1 a e M n λe M n=>R231_2 a e M n λe M n=>(λ(j0:K3)=>R231_20 a e M n λe M n=>(λ(j7:K3)=>R231_21 a e M n λe M n=>(λ(j8:K3)=>C e q11 (R231_22 a e M n λe M n=>(λ(j9:K3)=>C e q12 (j9 e M n) (R231_23 a e M n j9)) j8) (R231_24 a e M n j8)) j7) j0) λe M n=>R231_3 a e M n λe M n=>R231_4 a e M n λe M n=>R231_5 a e M n λe M n=>(λ(j1:K3)=>R231_6 a e M n λe M n=>(λ(j2:K3)=>C e q13 (R231_7 a e M n λe M n=>(λ(j3:K3)=>C e q14 (R231_8 a e M n λe M n=>(λ(j4:K3)=>C e q16 (R231_9 a e M n λe M n=>R231_10 a e M n λe M n=>(λ(j5:K3)=>R231_12 a e M n λe M n=>(λ(j6:K3)=>C e q17 (R231_13 a e M n j6) (R231_14 a e M n j6)) j5) λe M n=>R175_2 a e M n j4) (R231_15 a e M n j4)) j3) (R231_16 a e M n λe M n=>C e q15 (R231_17 a e M n j3) (R231_18 a e M n λe M n=>k .r e M n))) j2) (R231_13 a e M n j2)) j1) λe M n=>k .n e M n) [] [q0,q1,q2]
def R232_1:RegF:=λa e M n k=>e.g q3 λb=>e.g q2 λc=>e.g q0 λd=>oA b (v_lt b i0 λf=>oA f (hM f M n b λg M n=>hM f M n c λh M n=>hP f M n (v_le h g) λl M n=>v_pick f bt l λm=>oA m (hM m M n b λo M n=>hM m M n d λp M n=>hP m M n (v_lenS p) λq M n=>hP m M n (v_le q o) λr M n=>v_pick m bt r λs=>Z e q5 s M n k)))
def R232_2:RegF:=λa e M n k=>e.g q0 λb=>e.g q3 λc=>oA b (oA c (v_ixS b c 1 λd=>L M d λf=>Y e q4 f M n k))
def R232_3:RegF:=λa e M n k=>e.g q4 λb=>e.g q1 λc=>e.g q2 λd=>oA b (v_lt b i0 λf=>oA f (hM f M n b λg M n=>hM f M n c λh M n=>hP f M n (v_lenS h) λl M n=>hP f M n (v_le l g) λm M n=>v_pick f bt m λo=>oA o (hM o M n c λp M n=>hM o M n b λq M n=>hP o M n (v_ixS p q 1) λr M n=>hL o M n r λs M n=>hP o M n (v_lt s i0) λt M n=>v_pick o bt t λu=>oA u (hM u M n c λw M n=>hM u M n b λx M n=>hP u M n (v_ixS w x 1) λy M n=>hL u M n y λz M n=>hM u M n d λA M n=>hP u M n (v_le A z) λB M n=>v_pick u bt B λC=>Z e q6 C M n k))))
def R232_4:RegF:=λa e M n k=>e.g q1 λb=>e.g q4 λc=>oA b (oA c (v_ixS b c 1 λd=>L M d λf=>Y e q7 f M n k))
def S232:List (P × I):=[(s0,q0),(s1,q1),(s2,q2),(s3,q3),(s9,q4),(s22,q5),(s49,q6),(s8,q7)]
def G232:F2:=.mk (λa e M n k=>R62_0 a e M n λe M n=>R232_1 a e M n λe M n=>C e q5 (R232_2 a e M n λe M n=>R232_3 a e M n λe M n=>C e q6 (R232_4 a e M n λe M n=>k .r e M n) (R62_1 a e M n λe M n=>k .r e M n)) (R62_1 a e M n λe M n=>k .r e M n)) [.t q7] [q0,q1,q2,q3]
def S233:List (P × I):=[(s0,q0),(s1,q1),(s2,q2),(s6,q3)]
def G233:F2:=.mk (λa e M n k=>R81_0 a e M n λe M n=>R81_1 a e M n λe M n=>k .r e M n) [.t q3] [q0,q1,q2]
def R234_0:RegF:=λa e M n k=>e.g q0 λb=>bxV 64 b M n λc M n=>oA bf (e.t q1 c λe=>Z e q6 bf M n k)
def R234_1:RegF:=λa e M n k=>e.g q1 λb=>v_fa b 0 λc=>L M c λd=>callV a s260 [d] M n λf M n=>Y e q2 f M n k
def R234_3:RegF:=λa e M n k=>e.g q2 λb=>e.g q1 λc=>oA b (ldW M c 5 true λ_ d=>cvV a b [d] M n λf M n=>oA f (v_ext f 0 λg=>v_ext f 1 λh=>alV 64 [i0,i0,i0,(.str []),(.str [])] M n λl M n=>stV M l g 5 λM=>oA h (e.t q3 l λe=>Z e q5 h M n k)))
def R234_5:RegF:=λa e M n k=>e.g q5 λb=>e.g q3 λc=>e.g q1 λd=>oA b (oA b (gdK b true .off M n (λj=>ldW M c 5 true λ_ v=>j v M n) λf M n=>gdK b true .off M n (λj=>ldW M d 5 true λ_ v=>j v M n) λg M n=>gP b M n (v_aeq false [(0,.i),(1,.i),(2,.i),(3,.s),(4,.s)] f g) λh M n=>v_pick b h bf λl=>Y e q6 l M n k))
def S234:List (P × I):=[(s0,q0),(s1,q1),(s3,q2),(s4,q3),(s10,q4),(s5,q5),(s2,q6)]
def G234:F2:=.mk (λa e M n k=>R234_0 a e M n λe M n=>R234_1 a e M n λe M n=>R86_2 a e M n λe M n=>C e q4 (R234_3 a e M n λe M n=>R86_4 a e M n λe M n=>R234_5 a e M n λe M n=>k .r e M n) (R35_0 a e M n λe M n=>k .r e M n)) [.t q6] [q0]
def R236_2:RegF:=λa e M n k=>e.g q0 λb=>bslV 99 3 0 [] [] M n λc M n=>oA b (appV 99 3 24 c b M n λd M n=>Y e q2 d M n k)
def S236:List (P × I):=[(s0,q0),(s4,q1),(s2,q2)]
def G236:F2:=.mk (λa e M n k=>R15_0 a e M n λe M n=>R32_1 a e M n λe M n=>C e q1 (R236_2 a e M n λe M n=>k .r e M n) (R15_0 a e M n λe M n=>k .r e M n)) [.t q2] [q0]
def R237_0:RegF:=λa e M n k=>e.g q1 λb=>e.g q0 λc=>e.g q2 λd=>(λW=>ldV M b 1 false λf g=>oA c (L M b λh=>oA c (v_ixS h c 3 λl=>ldW M l 3 true λ_ m=>ldW M d 3 true λ_ o=>bslV 99 3 1 [i0,i0,i0] [(0,3,o)] M n λp M n=>callV a s238 [m,p] M n λq M n=>v_ixS g c 3 λr=>bR (stV M r q 3 λM=>k e M n) (keptB W M (f :: []))))) M
def S237:List (P × I):=[(s0,q0),(s1,q1),(s2,q2)]
def G237:F2:=.mk (λa e M n k=>R237_0 a e M n λe M n=>k .n e M n) [] [q0,q1,q2]
def R238_0:RegF:=λa e M n k=>e.g q0 λb=>bxV 99 b M n λc M n=>alV 99 [i0,i0,i0] M n λd M n=>e.t q3 c λe=>Z e q2 d M n k
def R238_1:RegF:=λa e M n k=>e.g q3 λb=>e.g q1 λc=>e.g q2 λd=>ldW M b 3 true λ_ f=>oA c (callV a s261 [(.fn s228 [] []),f,c] M n λg M n=>stV M d g 3 λM=>k e M n)
def S238:List (P × I):=[(s0,q0),(s1,q1),(s4,q2),(s2,q3)]
def G238:F2:=.mk (λa e M n k=>R238_0 a e M n λe M n=>R238_1 a e M n λe M n=>k .r e M n) [.c q2 3 true] [q0,q1]
def R239_0:RegF:=λa e M n k=>e.g q0 λb=>e.g q2 λc=>e.g q1 λd=>oA b (oA c (v_nck b λf=>v_fa f 1 λg=>v_ixA g c 64 1 λh=>L M h λl=>oA d (callV a s226 [l,d] M n λm M n=>oA m (v_ext m 0 λo=>v_ext m 1 λp=>oA o (oA p (Z e q3 o M n k))))))
def R239_1:RegF:=λa e M n k=>e.g q0 λb=>e.g q2 λc=>e.g q3 λd=>e.g q1 λf=>(λW=>oA b (oA c (oA b (oA c (v_nck b λg=>v_fa g 1 λh=>v_ixA h c 64 1 λl=>L M l λm=>oA d (oA f (bslV 3 1 1 [i0] [(0,1,f)] M n λo M n=>callV a s227 [m,d,o] M n λp M n=>v_nck b λq=>v_fa q 1 λr=>v_ixA r c 64 1 λs=>bR (stV M s p 1 λM=>k e M n) (keptB W M [])))))))) M
def R239_2:RegF:=λa e M n k=>e.g q0 λb=>e.g q2 λc=>oA b (oA b (v_nck b λd=>v_fa d 0 λf=>L M f λg=>oA c (callV a s262 [g,c] M n λh M n=>v_nck b λl=>v_fa l 0 λm=>stV M m h 1 λM=>k e M n)))
def S239:List (P × I):=[(s0,q0),(s1,q1),(s2,q2),(s6,q3)]
def G239:F2:=.mk (λa e M n k=>R239_0 a e M n λe M n=>R239_1 a e M n λe M n=>R239_2 a e M n λe M n=>k .n e M n) [] [q0,q1,q2]
def R241_1:RegF:=λa e M n k=>e.g q0 λb=>oA b (callV a s157 [b] M n λc M n=>v_sub i64 c λd=>Y e q1 d M n k)
def S241:List (P × I):=[(s0,q0),(s2,q1)]
def G241:F2:=.mk (λa e M n k=>R72_0 a e M n λe M n=>R241_1 a e M n λe M n=>k .r e M n) [.t q1] [q0]
def S242:List (P × I):=[(s0,q0),(s4,q1),(s2,q2)]
def G242:F2:=.mk (λa e M n k=>R35_3 a e M n λe M n=>R15_1 a e M n λe M n=>C e q1 (R74_2 a e M n λe M n=>k .r e M n) (R35_3 a e M n λe M n=>k .r e M n)) [.t q2] [q0]
def R243_0:RegF:=λa e M n k=>e.g q0 λb=>bxV 64 b M n λc M n=>oA i0 (e.t q1 c λe=>Z e q5 i0 M n k)
def R243_1:RegF:=λa e M n k=>e.g q1 λb=>ldW M b 5 true λ_ c=>callV a s234 [c] M n λd M n=>v_not d λf=>Y e q2 f M n k
def R243_2:RegF:=λa e M n k=>e.g q1 λb=>v_fa b 0 λc=>L M c λd=>v_eq d i3 λf=>Y e q3 f M n k
def R243_3:RegF:=λa e M n k=>e.g q1 λb=>v_fa b 0 λc=>L M c λd=>v_eq d i4 λf=>Y e q4 f M n k
def R243_5:RegF:=λa e M n k=>e.g q1 λb=>v_fa b 3 λc=>L M c λd=>v_lenT d λf=>Y e q5 f M n k
def R243_6:RegF:=λa e M n k=>e.g q1 λb=>v_fa b 2 λc=>L M c λd=>Y e q5 d M n k
def S243:List (P × I):=[(s0,q0),(s1,q1),(s3,q2),(s7,q3),(s13,q4),(s2,q5)]
def G243:F2:=.mk (λa e M n k=>R243_0 a e M n λe M n=>R243_1 a e M n λe M n=>C e q2 (R243_2 a e M n λe M n=>C e q3 (R243_3 a e M n λe M n=>C e q4 (R51_0 a e M n λe M n=>k .r e M n) (R243_5 a e M n λe M n=>k .r e M n)) (R243_6 a e M n λe M n=>k .r e M n)) (R51_0 a e M n λe M n=>k .r e M n)) [.t q5] [q0]
def R245_0:RegF:=λa e M n k=>Y e q14 i0 M n k
def R245_1:RegF:=λa e M n k=>e.g q0 λb=>oA b (v_nqP false b λc=>Y e q6 c M n k)
def R245_2:RegF:=λa e M n k=>e.g q0 λb=>e.g q1 λc=>oA b (oA c (callV a s146 [b,c] M n λd M n=>v_not d λf=>Y e q7 f M n k))
def R245_3:RegF:=λa e M n k=>e.g q2 λb=>oA b (v_lt b i0 λc=>oA c (hM c M n b λd M n=>hP c M n (v_lt i255 d) λf M n=>v_pick c bt f λg=>Y e q8 g M n k))
def R245_4:RegF:=λa e M n k=>e.g q0 λb=>oA b (v_mkf s268 [b] [] λc=>Y e q5 c M n k)
def R245_5:RegF:=λa e M n k=>e.g q0 λb=>e.g q1 λc=>oA b (v_nck b λd=>v_fa d 0 λf=>L M f λg=>oA c (lkuV (.agg [i0,i0,bf]) false g c M λh=>alV 258 [i0,i0,bf] M n λl M n=>stV M l h 3 λM=>Z e q4 l M n k))
def R245_6:RegF:=λa e M n k=>e.g q2 λb=>e.g q4 λc=>oA b (v_fa c 2 λd=>stV M d bt 1 λM=>v_fa c 1 λf=>stV M f b 1 λM=>k e M n)
def R245_7:RegF:=λa e M n k=>e.g q0 λb=>e.g q1 λc=>e.g q4 λd=>(λW=>oA b (v_nck b λf=>v_fa f 0 λg=>L M g λh=>oA c (ldW M d 3 true λ_ l=>mupV h c l M λM=>bR (k e M n) (keptB W M [])))) M
def R245_9:RegF:=λa e M n k=>e.g q4 λb=>v_fa b 0 λc=>L M c λd=>v_eq d m0 λf=>Z e q13 f M n k
def R245_10:RegF:=λa e M n k=>e.g q5 λb=>e.g q1 λc=>oA b (oA c (cvV a b [c] M n λd M n=>k e M n))
def R245_11:RegF:=λa e M n k=>e.g q0 λb=>e.g q1 λc=>oA b (oA c (callV a s269 [b,c] M n λd M n=>v_lenS d λf=>oA i0 (e.t q11 d λe=>e.t q9 f λe=>Z e q3 i0 M n k)))
def R245_13:RegF:=λa e M n k=>e.g q11 λb=>e.g q3 λc=>v_ixS b c 1 λd=>L M d λf=>Y e q12 f M n k
def R245_14:RegF:=λa e M n k=>e.g q5 λb=>e.g q12 λc=>oA b (oA c (cvV a b [c] M n λd M n=>k e M n))
def R245_16:RegF:=λa e M n k=>Y e q14 i19 M n k
def R245_17:RegF:=λa e M n k=>Y e q14 i4 M n k
def R245_18:RegF:=λa e M n k=>Y e q14 i1 M n k
def S245:List (P × I):=[(s0,q0),(s1,q1),(s2,q2),(s32,q3),(s10,q4),(s7,q5),(s11,q6),(s14,q7),(s19,q8),(s31,q9),(s33,q10),(s30,q11),(s9,q12),(s57,q13),(s6,q14)]
def G245:F2:=.mk (λa e M n k=>R245_0 a e M n λe M n=>R245_1 a e M n λe M n=>C e q6 (R245_2 a e M n λe M n=>C e q7 (R245_3 a e M n λe M n=>C e q8 (R245_4 a e M n λe M n=>(λ(j0:K3)=>R245_11 a e M n λe M n=>(λ(j3:K3)=>loopK (λa e M n k=>R10_23 a e M n λe M n=>C e q10 (k (.x 1) e M n) (R245_13 a e M n λe M n=>R245_14 a e M n λe M n=>R10_26 a e M n λe M n=>k .n e M n)) a e M n (X k j3 1)) j0) λe M n=>R245_5 a e M n λe M n=>R245_6 a e M n λe M n=>R245_7 a e M n λe M n=>(λ(j1:K3)=>R245_9 a e M n λe M n=>(λ(j2:K3)=>C e q13 (j2 e M n) (R245_10 a e M n j2)) j1) λe M n=>R245_0 a e M n λe M n=>k .r e M n) (R245_16 a e M n λe M n=>k .r e M n)) (R245_17 a e M n λe M n=>k .r e M n)) (R245_18 a e M n λe M n=>k .r e M n)) [.t q14] [q0,q1,q2]
def R246_1:RegF:=λa e M n k=>e.g q0 λb=>e.g q1 λc=>oA b (oA c (callV a s270 [b,c] M n λd M n=>oA d (v_ext d 0 λf=>v_ext d 1 λg=>oA f (Y e q3 g M n k))))
def R246_2:RegF:=λa e M n k=>e.g q3 λb=>oA b (v_ne b i0 λc=>Z e q4 c M n k)
def R246_5:RegF:=λa e M n k=>e.g q0 λb=>e.g q1 λc=>oA b (oA c (callV a s271 [b,c] M n λd M n=>v_lenS d λf=>oA i0 (e.t q7 d λe=>e.t q5 f λe=>Z e q2 i0 M n k)))
def R246_7:RegF:=λa e M n k=>e.g q7 λb=>e.g q2 λc=>v_ixS b c 1 λd=>L M d λf=>Y e q8 f M n k
def R246_8:RegF:=λa e M n k=>e.g q0 λb=>e.g q1 λc=>e.g q8 λd=>oA b (oA c (oA d (callV a s272 [b,c,d] M n λf M n=>k e M n)))
def S246:List (P × I):=[(s0,q0),(s1,q1),(s22,q2),(s6,q3),(s16,q4),(s21,q5),(s23,q6),(s20,q7),(s8,q8),(s4,q9)]
def G246:F2:=.mk (λa e M n k=>R171_2 a e M n λe M n=>R246_1 a e M n λe M n=>R246_2 a e M n λe M n=>C e q4 ((λ(j0:K3)=>R246_5 a e M n λe M n=>(λ(j1:K3)=>loopK (λa e M n k=>R133_4 a e M n λe M n=>C e q6 (k (.x 0) e M n) (R246_7 a e M n λe M n=>R246_8 a e M n λe M n=>R14_15 a e M n λe M n=>k .n e M n)) a e M n (X k j1 0)) j0) λe M n=>R177_3 a e M n λe M n=>R171_2 a e M n λe M n=>k .r e M n) (R77_4 a e M n λe M n=>k .r e M n)) [.t q9] [q0,q1]
def G247:F2:=.spec (sortedS 3 [s274,s338,s403])
def R248_0:RegF:=λa e M n k=>e.g q0 λb=>bxV 161 b M n λc M n=>oA (.nilf) (e.t q1 c λe=>e.t q2 (.nilf) λe=>k e M n)
def R248_1:RegF:=λa e M n k=>e.g q1 λb=>v_mkf s274 [] [b] λc=>Y e q2 c M n k
def S248:List (P × I):=[(s0,q0),(s1,q1),(s2,q2)]
def G248:F2:=.mk (λa e M n k=>R248_0 a e M n λe M n=>R248_1 a e M n λe M n=>k .r e M n) [.t q2] [q0]
def R252_1:RegF:=λa e M n k=>e.g q0 λb=>oA b (callV a s206 [b] M n λc M n=>Y e q3 c M n k)
def R252_2:RegF:=λa e M n k=>e.g q1 λb=>oA b (callV a s206 [b] M n λc M n=>Y e q2 c M n k)
def R252_4:RegF:=λa e M n k=>e.g q2 λb=>Y e q6 b M n k
def R252_5:RegF:=λa e M n k=>e.g q0 λb=>e.g q1 λc=>oA b (oA c (v_lt b c λd=>Z e q7 d M n k))
def R252_6:RegF:=λa e M n k=>e.g q0 λb=>e.g q1 λc=>oA b (oA c (v_lt c b λd=>Z e q8 d M n k))
def R252_8:RegF:=λa e M n k=>Y e q9 i1 M n k
def R252_11:RegF:=λa e M n k=>e.g q2 λb=>Y e q5 b M n k
def S252:List (P × I):=[(s0,q0),(s1,q1),(s6,q2),(s5,q3),(s11,q4),(s12,q5),(s13,q6),(s16,q7),(s19,q8),(s4,q9)]
def G252:F2:=.mk (λa e M n k=>R171_2 a e M n λe M n=>R252_1 a e M n λe M n=>R252_2 a e M n λe M n=>R61_1 a e M n λe M n=>C e q4 (R252_4 a e M n λe M n=>C e q6 (R252_5 a e M n λe M n=>C e q7 (R252_6 a e M n λe M n=>C e q8 (R171_2 a e M n λe M n=>k .r e M n) (R252_8 a e M n λe M n=>k .r e M n)) (R80_6 a e M n λe M n=>k .r e M n)) (R252_8 a e M n λe M n=>k .r e M n)) (R252_11 a e M n λe M n=>C e q5 (R80_6 a e M n λe M n=>k .r e M n) (R171_2 a e M n λe M n=>k .r e M n))) [.t q9] [q0,q1]
def R257_2:RegF:=λa e M n k=>e.g q0 λb=>e.g q1 λc=>oA b (v_nck b λd=>v_fa d 3 λf=>L M f λg=>oA c (callV a s146 [g,c] M n λh M n=>v_not h λl=>Y e q5 l M n k))
def R257_3:RegF:=λa e M n k=>e.g q0 λb=>e.g q2 λc=>e.g q1 λd=>oA b (v_nck b λf=>v_fa f 3 λg=>L M g λh=>oA c (oA d (callV a s97 [h,c,d] M n λl M n=>Y e q3 l M n k)))
def R257_5:RegF:=λa e M n k=>e.g q0 λb=>e.g q1 λc=>e.g q2 λd=>oA b (v_nck b λf=>v_fa f 2 λg=>L M g λh=>oA c (oA d (callV a s277 [h,c,d] M n λl M n=>Y e q7 l M n k)))
def R257_7:RegF:=λa e M n k=>Y e q7 i4 M n k
def S257:List (P × I):=[(s0,q0),(s1,q1),(s2,q2),(s7,q3),(s8,q4),(s11,q5),(s27,q6),(s6,q7)]
def G257:F2:=.mk (λa e M n k=>R62_0 a e M n λe M n=>R111_1 a e M n λe M n=>C e q4 (R257_2 a e M n λe M n=>C e q5 (R257_3 a e M n λe M n=>R33_2 a e M n λe M n=>C e q6 (R257_5 a e M n λe M n=>k .r e M n) (R62_7 a e M n λe M n=>k .r e M n)) (R257_7 a e M n λe M n=>k .r e M n)) (R164_8 a e M n λe M n=>k .r e M n)) [.t q7] [q0,q1,q2]
def R258_0:RegF:=λa e M n k=>e.g q2 λb=>bxV 64 b M n λc M n=>alV 70 [i0,i0,(.str [])] M n λd M n=>e.t q5 c λe=>Z e q3 d M n k
def R258_2:RegF:=λa e M n k=>e.g q3 λb=>v_bld [i0,i0,(.str [])] [(0,1,i1)] λc=>stV M b c 3 λM=>k e M n
def R258_3:RegF:=λa e M n k=>e.g q0 λb=>e.g q1 λc=>oA b (v_nck b λd=>v_fa d 3 λf=>L M f λg=>oA c (callV a s146 [g,c] M n λh M n=>v_not h λl=>Y e q7 l M n k))
def R258_4:RegF:=λa e M n k=>e.g q3 λb=>v_bld [i0,i0,(.str [])] [(0,1,i4)] λc=>stV M b c 3 λM=>k e M n
def R258_5:RegF:=λa e M n k=>e.g q5 λb=>ldW M b 5 true λ_ c=>callV a s234 [c] M n λd M n=>v_not d λf=>Y e q8 f M n k
def R258_6:RegF:=λa e M n k=>e.g q3 λb=>v_bld [i0,i0,(.str [])] [(0,1,i19)] λc=>stV M b c 3 λM=>k e M n
def R258_7:RegF:=λa e M n k=>e.g q5 λb=>v_fa b 0 λc=>L M c λd=>Z e q4 d M n k
def R258_8:RegF:=λa e M n k=>e.g q4 λb=>v_eq b i1 λc=>Y e q9 c M n k
def R258_9:RegF:=λa e M n k=>e.g q0 λb=>e.g q1 λc=>e.g q5 λd=>e.g q3 λf=>(λW=>oA b (v_nck b λg=>v_fa g 2 λh=>L M h λl=>oA c (v_fa d 3 λm=>L M m λo=>v_fa d 1 λp=>L M p λq=>callV a s279 [l,c,o,q] M n λr M n=>v_ext r 0 λs=>v_ext r 1 λt=>callV a s278 [s,t] M n λu M n=>bR (stV M f u 3 λM=>k e M n) (keptB W M [])))) M
def R258_10:RegF:=λa e M n k=>e.g q4 λb=>v_eq b i2 λc=>Y e q10 c M n k
def R258_11:RegF:=λa e M n k=>e.g q0 λb=>e.g q1 λc=>e.g q5 λd=>e.g q3 λf=>(λW=>oA b (v_nck b λg=>v_fa g 2 λh=>L M h λl=>oA c (v_fa d 1 λm=>L M m λo=>callV a s272 [l,c,o] M n λp M n=>callV a s278 [i0,p] M n λq M n=>bR (stV M f q 3 λM=>k e M n) (keptB W M [])))) M
def R258_12:RegF:=λa e M n k=>e.g q4 λb=>v_eq b i3 λc=>Y e q11 c M n k
def R258_13:RegF:=λa e M n k=>e.g q0 λb=>e.g q1 λc=>e.g q5 λd=>e.g q3 λf=>oA b (oA c (ldW M d 5 true λ_ g=>callV a s280 [b,c,g] M n λh M n=>stV M f h 3 λM=>k e M n))
def R258_14:RegF:=λa e M n k=>e.g q4 λb=>v_eq b i4 λc=>Y e q12 c M n k
def R258_15:RegF:=λa e M n k=>e.g q0 λb=>e.g q1 λc=>e.g q5 λd=>e.g q3 λf=>(λW=>oA b (v_nck b λg=>v_fa g 2 λh=>ldV M h 1 false λl m=>oA c (v_fa d 1 λo=>ldV M o 1 false λp q=>v_fa d 3 λr=>L M r λs=>cvsV 5 s M n λt M n=>callV a s281 [m,c,q,t] M n λu M n=>v_ext u 0 λw=>v_ext u 1 λx=>callV a s278 [w,x] M n λy M n=>bR (stV M f y 3 λM=>k e M n) (keptB W M (p :: (l :: [])))))) M
def R258_16:RegF:=λa e M n k=>e.g q4 λb=>v_eq b i5 λc=>Y e q13 c M n k
def R258_17:RegF:=λa e M n k=>e.g q0 λb=>e.g q1 λc=>e.g q5 λd=>e.g q3 λf=>(λW=>oA b (v_nck b λg=>v_fa g 2 λh=>L M h λl=>oA c (v_fa d 1 λm=>L M m λo=>v_fa d 2 λp=>L M p λq=>callV a s282 [l,c,o,q] M n λr M n=>callV a s278 [i0,r] M n λs M n=>bR (stV M f s 3 λM=>k e M n) (keptB W M [])))) M
def R258_18:RegF:=λa e M n k=>e.g q4 λb=>v_eq b i6 λc=>Y e q14 c M n k
def R258_19:RegF:=λa e M n k=>e.g q0 λb=>e.g q1 λc=>e.g q5 λd=>e.g q3 λf=>(λW=>oA b (v_nck b λg=>v_fa g 2 λh=>L M h λl=>oA c (v_fa d 1 λm=>L M m λo=>callV a s283 [l,c,o] M n λp M n=>v_ext p 0 λq=>v_ext p 1 λr=>callV a s278 [q,r] M n λs M n=>bR (stV M f s 3 λM=>k e M n) (keptB W M [])))) M
def R258_20:RegF:=λa e M n k=>e.g q4 λb=>v_eq b i7 λc=>Y e q15 c M n k
def R258_21:RegF:=λa e M n k=>e.g q0 λb=>e.g q5 λc=>e.g q3 λd=>(λW=>oA b (v_nck b λf=>v_fa f 1 λg=>L M g λh=>v_fa c 3 λl=>L M l λm=>v_fa c 4 λo=>L M o λp=>callV a s284 [h,m,p] M n λq M n=>callV a s278 [i0,q] M n λr M n=>bR (stV M d r 3 λM=>k e M n) (keptB W M []))) M
def R258_22:RegF:=λa e M n k=>e.g q4 λb=>v_eq b i8 λc=>Y e q16 c M n k
def R258_23:RegF:=λa e M n k=>e.g q0 λb=>e.g q5 λc=>e.g q3 λd=>(λW=>oA b (v_nck b λf=>v_fa f 1 λg=>L M g λh=>v_fa c 3 λl=>L M l λm=>callV a s285 [h,m] M n λo M n=>callV a s278 [i0,o] M n λp M n=>bR (stV M d p 3 λM=>k e M n) (keptB W M []))) M
def R258_24:RegF:=λa e M n k=>e.g q4 λb=>v_eq b i9 λc=>Y e q17 c M n k
def R258_25:RegF:=λa e M n k=>e.g q0 λb=>e.g q5 λc=>e.g q3 λd=>(λW=>oA b (v_nck b λf=>v_fa f 1 λg=>L M g λh=>v_fa c 3 λl=>L M l λm=>callV a s286 [h,m] M n λo M n=>callV a s278 [i0,o] M n λp M n=>bR (stV M d p 3 λM=>k e M n) (keptB W M []))) M
def R258_26:RegF:=λa e M n k=>e.g q4 λb=>v_eq b i10 λc=>Y e q18 c M n k
def R258_27:RegF:=λa e M n k=>e.g q0 λb=>e.g q5 λc=>e.g q3 λd=>(λW=>oA b (v_nck b λf=>v_fa f 1 λg=>L M g λh=>v_fa c 3 λl=>L M l λm=>callV a s287 [h,m] M n λo M n=>callV a s278 [i0,o] M n λp M n=>bR (stV M d p 3 λM=>k e M n) (keptB W M []))) M
def R258_28:RegF:=λa e M n k=>e.g q4 λb=>v_eq b i11 λc=>Y e q19 c M n k
def R258_29:RegF:=λa e M n k=>e.g q0 λb=>e.g q1 λc=>e.g q3 λd=>oA b (v_nck b λf=>v_fa f 2 λg=>L M g λh=>oA c (callV a s288 [h,c] M n λl M n=>v_ext l 0 λm=>v_ext l 1 λo=>callV a s278 [m,o] M n λp M n=>stV M d p 3 λM=>k e M n))
def R258_30:RegF:=λa e M n k=>e.g q4 λb=>v_eq b i12 λc=>Y e q20 c M n k
def R258_31:RegF:=λa e M n k=>e.g q0 λb=>e.g q5 λc=>e.g q3 λd=>oA b (ldW M c 5 true λ_ f=>callV a s289 [b,f] M n λg M n=>stV M d g 3 λM=>k e M n)
def R258_32:RegF:=λa e M n k=>e.g q4 λb=>v_eq b i13 λc=>Y e q21 c M n k
def R258_33:RegF:=λa e M n k=>e.g q0 λb=>e.g q5 λc=>e.g q3 λd=>oA b (ldW M c 5 true λ_ f=>callV a s290 [b,f] M n λg M n=>stV M d g 3 λM=>k e M n)
def R258_34:RegF:=λa e M n k=>e.g q4 λb=>v_eq b i16 λc=>Y e q22 c M n k
def R258_35:RegF:=λa e M n k=>e.g q0 λb=>e.g q1 λc=>e.g q3 λd=>oA b (oA c (callV a s291 [b,c] M n λf M n=>stV M d f 3 λM=>k e M n))
def R258_36:RegF:=λa e M n k=>e.g q4 λb=>v_eq b i17 λc=>Y e q23 c M n k
def R258_37:RegF:=λa e M n k=>e.g q1 λb=>e.g q3 λc=>oA b (callV a s278 [b,i0] M n λd M n=>stV M c d 3 λM=>k e M n)
def S258:List (P × I):=[(s0,q0),(s1,q1),(s2,q2),(s6,q3),(s26,q4),(s5,q5),(s7,q6),(s11,q7),(s20,q8),(s27,q9),(s42,q10),(s53,q11),(s59,q12),(s75,q13),(s88,q14),(s101,q15),(s113,q16),(s123,q17),(s133,q18),(s143,q19),(s154,q20),(s159,q21),(s164,q22),(s169,q23)]
def G258:F2:=.mk ((c_seq (c_fn R258_0) (c_seq (c_blk 0 (c_seq (c_fn R245_1) (c_cond (.t q6) (c_seq (c_fn R258_2) c_ret) (c_seq (c_fn R258_3) (c_cond (.t q7) (c_seq (c_fn R258_4) c_ret) (c_seq (c_fn R258_5) (c_cond (.t q8) (c_seq (c_fn R258_6) c_ret) c_skip))))))) (c_seq (c_seq (c_fn R258_7) (c_blk 1 (c_seq (c_fn R258_8) (c_cond (.t q9) (c_seq (c_fn R258_9) c_ret) (c_seq (c_fn R258_10) (c_cond (.t q10) (c_seq (c_fn R258_11) c_ret) (c_seq (c_fn R258_12) (c_cond (.t q11) (c_seq (c_fn R258_13) c_ret) (c_seq (c_fn R258_14) (c_cond (.t q12) (c_seq (c_fn R258_15) c_ret) (c_seq (c_fn R258_16) (c_cond (.t q13) (c_seq (c_fn R258_17) c_ret) (c_seq (c_fn R258_18) (c_cond (.t q14) (c_seq (c_fn R258_19) c_ret) (c_seq (c_fn R258_20) (c_cond (.t q15) (c_seq (c_fn R258_21) c_ret) (c_seq (c_fn R258_22) (c_cond (.t q16) (c_seq (c_fn R258_23) c_ret) (c_seq (c_fn R258_24) (c_cond (.t q17) (c_seq (c_fn R258_25) c_ret) (c_seq (c_fn R258_26) (c_cond (.t q18) (c_seq (c_fn R258_27) c_ret) (c_seq (c_fn R258_28) (c_cond (.t q19) (c_seq (c_fn R258_29) c_ret) (c_seq (c_fn R258_30) (c_cond (.t q20) (c_seq (c_fn R258_31) c_ret) (c_seq (c_fn R258_32) (c_cond (.t q21) (c_seq (c_fn R258_33) c_ret) (c_seq (c_fn R258_34) (c_cond (.t q22) (c_seq (c_fn R258_35) c_ret) (c_seq (c_fn R258_36) (c_cond (.t q23) (c_seq (c_fn R258_37) c_ret) c_skip)))))))))))))))))))))))))))))))) (c_seq (c_fn R258_6) c_ret))))) [.c q3 3 true] [q0,q1,q2]
def R259_2:RegF:=λa e M n k=>e.g q1 λb=>v_eq b i16 λc=>Y e q3 c M n k
def R259_4:RegF:=λa e M n k=>Y e q4 i6 M n k
def R259_5:RegF:=λa e M n k=>Y e q4 i5 M n k
def R259_6:RegF:=λa e M n k=>e.g q1 λb=>v_eq b i3 λc=>Y e q2 c M n k
def S259:List (P × I):=[(s0,q0),(s3,q1),(s4,q2),(s7,q3),(s2,q4)]
def G259:F2:=.mk (λa e M n k=>R6_7 a e M n λe M n=>R140_1 a e M n λe M n=>(λ(j0:K3)=>R259_6 a e M n λe M n=>(λ(j1:K3)=>C e q2 (R140_3 a e M n j1) (j1 e M n)) j0) λe M n=>C e q2 (R259_2 a e M n λe M n=>C e q3 (R6_7 a e M n λe M n=>k .r e M n) (R259_4 a e M n λe M n=>k .r e M n)) (R259_5 a e M n λe M n=>k .r e M n)) [.t q4] [q0]
def R260_0:RegF:=λa e M n k=>oA (.nilf) (e.t q11 (.nilf) λe=>k e M n)
def R260_2:RegF:=λa e M n k=>e.g q1 λb=>v_eq b i1 λc=>Y e q6 c M n k
def R260_3:RegF:=λa e M n k=>oA (.fn s292 [] []) (e.t q11 (.fn s292 [] []) λe=>k e M n)
def R260_5:RegF:=λa e M n k=>e.g q1 λb=>v_eq b i6 λc=>Y e q4 c M n k
def R260_6:RegF:=λa e M n k=>oA (.fn s293 [] []) (e.t q11 (.fn s293 [] []) λe=>k e M n)
def R260_7:RegF:=λa e M n k=>e.g q1 λb=>v_eq b i3 λc=>Y e q5 c M n k
def R260_9:RegF:=λa e M n k=>oA (.fn s294 [] []) (e.t q11 (.fn s294 [] []) λe=>k e M n)
def R260_10:RegF:=λa e M n k=>e.g q1 λb=>v_eq b i4 λc=>Y e q7 c M n k
def R260_11:RegF:=λa e M n k=>oA (.fn s295 [] []) (e.t q11 (.fn s295 [] []) λe=>k e M n)
def R260_12:RegF:=λa e M n k=>e.g q1 λb=>v_eq b i7 λc=>Y e q8 c M n k
def R260_13:RegF:=λa e M n k=>oA (.fn s296 [] []) (e.t q11 (.fn s296 [] []) λe=>k e M n)
def R260_14:RegF:=λa e M n k=>e.g q1 λb=>v_eq b i8 λc=>Y e q2 c M n k
def R260_15:RegF:=λa e M n k=>e.g q1 λb=>v_eq b i9 λc=>Y e q2 c M n k
def R260_16:RegF:=λa e M n k=>e.g q1 λb=>v_eq b i10 λc=>Y e q2 c M n k
def R260_17:RegF:=λa e M n k=>e.g q1 λb=>v_eq b i12 λc=>Y e q2 c M n k
def R260_18:RegF:=λa e M n k=>e.g q1 λb=>v_eq b i13 λc=>Y e q2 c M n k
def R260_19:RegF:=λa e M n k=>oA (.fn s297 [] []) (e.t q11 (.fn s297 [] []) λe=>k e M n)
def R260_20:RegF:=λa e M n k=>e.g q1 λb=>v_eq b i11 λc=>Y e q3 c M n k
def R260_22:RegF:=λa e M n k=>e.g q1 λb=>v_eq b i17 λc=>Y e q3 c M n k
def R260_23:RegF:=λa e M n k=>oA (.fn s298 [] []) (e.t q11 (.fn s298 [] []) λe=>k e M n)
def R260_24:RegF:=λa e M n k=>e.g q1 λb=>v_eq b i14 λc=>Y e q9 c M n k
def R260_25:RegF:=λa e M n k=>oA (.fn s299 [] []) (e.t q11 (.fn s299 [] []) λe=>k e M n)
def R260_26:RegF:=λa e M n k=>e.g q1 λb=>v_eq b i15 λc=>Y e q10 c M n k
def R260_27:RegF:=λa e M n k=>oA (.fn s300 [] []) (e.t q11 (.fn s300 [] []) λe=>k e M n)
def S260:List (P × I):=[(s0,q0),(s3,q1),(s16,q2),(s22,q3),(s6,q4),(s9,q5),(s4,q6),(s12,q7),(s14,q8),(s26,q9),(s28,q10),(s2,q11)]
def G260:F2:=.mk ((c_seq (c_fn R260_0) (c_seq (c_seq (c_fn R140_1) (c_blk 0 (c_seq (c_fn R260_2) (c_cond (.t q6) (c_seq (c_fn R260_3) c_ret) (c_seq (c_seq (c_fn R140_9) (c_cond (.t q4) c_skip (c_fn R260_5))) (c_cond (.t q4) (c_seq (c_fn R260_6) c_ret) (c_seq (c_seq (c_fn R260_7) (c_cond (.t q5) c_skip (c_fn R140_12))) (c_cond (.t q5) (c_seq (c_fn R260_9) c_ret) (c_seq (c_fn R260_10) (c_cond (.t q7) (c_seq (c_fn R260_11) c_ret) (c_seq (c_fn R260_12) (c_cond (.t q8) (c_seq (c_fn R260_13) c_ret) (c_seq (c_seq (c_fn R260_14) (c_cond (.t q2) c_skip (c_seq (c_fn R260_15) (c_cond (.t q2) c_skip (c_seq (c_fn R260_16) (c_cond (.t q2) c_skip (c_seq (c_fn R260_17) (c_cond (.t q2) c_skip (c_fn R260_18))))))))) (c_cond (.t q2) (c_seq (c_fn R260_19) c_ret) (c_seq (c_seq (c_fn R260_20) (c_cond (.t q3) c_skip (c_seq (c_fn R259_2) (c_cond (.t q3) c_skip (c_fn R260_22))))) (c_cond (.t q3) (c_seq (c_fn R260_23) c_ret) (c_seq (c_fn R260_24) (c_cond (.t q9) (c_seq (c_fn R260_25) c_ret) (c_seq (c_fn R260_26) (c_cond (.t q10) (c_seq (c_fn R260_27) c_ret) c_skip)))))))))))))))))))) (c_seq (c_fn R260_0) c_ret)))) [.t q11] [q0]
def R261_0:RegF:=λa e M n k=>e.g q1 λb=>bxV 99 b M n λc M n=>alV 99 [i0,i0,i0] M n λd M n=>e.t q4 c λe=>Z e q6 d M n k
def R261_1:RegF:=λa e M n k=>e.g q4 λb=>e.g q6 λc=>ldW M b 3 true λ_ d=>stV M c d 3 λM=>k e M n
def R261_2:RegF:=λa e M n k=>e.g q2 λb=>oA b (v_lenS b λc=>oA i0 (e.t q9 b λe=>e.t q7 c λe=>Z e q3 i0 M n k))
def R261_3:RegF:=λa e M n k=>e.g q3 λb=>e.g q7 λc=>v_lt b c λd=>Z e q8 d M n k
def R261_5:RegF:=λa e M n k=>e.g q9 λb=>e.g q3 λc=>v_ixS b c 3 λd=>ldW M d 3 true λ_ f=>alV 99 [i0,i0,i0] M n λg M n=>stV M g f 3 λM=>Z e q5 g M n k
def R261_6:RegF:=λa e M n k=>e.g q0 λb=>e.g q5 λc=>e.g q4 λd=>oA b (ldW M c 3 true λ_ f=>ldW M d 3 true λ_ g=>cvV a b [f,g] M n λh M n=>v_lt i0 h λl=>Z e q10 l M n k)
def R261_7:RegF:=λa e M n k=>e.g q5 λb=>e.g q4 λc=>ldW M b 3 true λ_ d=>stV M c d 3 λM=>k e M n
def S261:List (P × I):=[(s0,q0),(s1,q1),(s2,q2),(s11,q3),(s4,q4),(s8,q5),(s6,q6),(s10,q7),(s12,q8),(s9,q9),(s19,q10)]
def G261:F2:=.mk (λa e M n k=>R261_0 a e M n λe M n=>(λ(j0:K3)=>R261_2 a e M n λe M n=>(λ(j1:K3)=>loopK (λa e M n k=>R261_3 a e M n λe M n=>C e q8 (k (.x 0) e M n) ((λ(j2:K3)=>(λ(j3:K3)=>R261_5 a e M n λe M n=>R261_6 a e M n λe M n=>(λ(j4:K3)=>C e q10 (j4 e M n) (R261_7 a e M n j4)) j3) j2) λe M n=>R10_26 a e M n λe M n=>k .n e M n)) a e M n (X k j1 0)) j0) λe M n=>R261_1 a e M n λe M n=>k .r e M n) [.c q6 3 true] [q0,q1,q2]
def R262_0:RegF:=λa e M n k=>oA (.int .u64 (.ofNat 0)) (e.t q2 (.int .u64 (.ofNat 0)) λe=>k e M n)
def R262_1:RegF:=λa e M n k=>e.g q0 λb=>e.g q1 λc=>oA b (oA c (callV a s301 [b,c,(.fn s302 [] [])] M n λd M n=>Y e q2 d M n k))
def S262:List (P × I):=[(s0,q0),(s1,q1),(s4,q2)]
def G262:F2:=.mk (λa e M n k=>R262_0 a e M n λe M n=>R262_1 a e M n λe M n=>k .r e M n) [.t q2] [q0,q1]
def R269_1:RegF:=λa e M n k=>e.g q0 λb=>e.g q1 λc=>oA b (oA c (callV a s146 [b,c] M n λd M n=>v_not d λf=>Z e q5 f M n k))
def R269_3:RegF:=λa e M n k=>e.g q4 λb=>oA b (Y e q10 b M n k)
def R269_4:RegF:=λa e M n k=>e.g q0 λb=>oA b (v_nck b λc=>v_fa c 0 λd=>L M d λf=>callV a s306 [f] M n λg M n=>callV a s247 [g] M n λh M n=>v_lenS h λl=>oA i0 (e.t q8 h λe=>e.t q6 l λe=>Z e q2 i0 M n k))
def R269_5:RegF:=λa e M n k=>e.g q2 λb=>e.g q6 λc=>v_lt b c λd=>Z e q7 d M n k
def R269_7:RegF:=λa e M n k=>e.g q8 λb=>e.g q2 λc=>v_ixS b c 1 λd=>L M d λf=>Y e q3 f M n k
def R269_8:RegF:=λa e M n k=>e.g q0 λb=>e.g q3 λc=>e.g q1 λd=>oA b (v_nck b λf=>v_fa f 0 λg=>L M g λh=>oA c (lkuV (.agg [i0,i0,bf]) false h c M λl=>v_fd l 0 1 false λm=>oA d (v_eq m d λo=>Z e q9 o M n k)))
def S269:List (P × I):=[(s0,q0),(s1,q1),(s19,q2),(s7,q3),(s5,q4),(s11,q5),(s18,q6),(s20,q7),(s17,q8),(s31,q9),(s4,q10)]
def G269:F2:=.mk (λa e M n k=>R163_0 a e M n λe M n=>R269_1 a e M n λe M n=>C e q5 (R19_3 a e M n λe M n=>(λ(j0:K3)=>R269_4 a e M n λe M n=>(λ(j1:K3)=>loopK (λa e M n k=>R269_5 a e M n λe M n=>C e q7 (k (.x 0) e M n) ((λ(j2:K3)=>(λ(j3:K3)=>R269_7 a e M n λe M n=>R269_8 a e M n λe M n=>(λ(j4:K3)=>C e q9 (j4 e M n) (R222_9 a e M n j4)) j3) j2) λe M n=>R14_15 a e M n λe M n=>k .n e M n)) a e M n (X k j1 0)) j0) λe M n=>R269_3 a e M n λe M n=>k .r e M n) (R163_0 a e M n λe M n=>k .r e M n)) [.t q10] [q0,q1]
def R270_0:RegF:=λa e M n k=>oA (.nil) (oA i0 (e.t q4 (.nil) λe=>Z e q5 i0 M n k))
def R270_2:RegF:=λa e M n k=>e.g q0 λb=>e.g q1 λc=>oA b (v_nck b λd=>v_fa d 2 λf=>L M f λg=>oA c (lkuV .nil false g c M λh=>v_nqP false h λl=>Y e q3 l M n k))
def R270_3:RegF:=λa e M n k=>e.g q0 λb=>e.g q1 λc=>oA b (v_nck b λd=>v_fa d 2 λf=>L M f λg=>oA c (lkuV .nil false g c M λh=>oA h (oA i0 (e.t q4 h λe=>Z e q5 i0 M n k))))
def R270_4:RegF:=λa e M n k=>oA (.nil) (oA i4 (e.t q4 (.nil) λe=>Z e q5 i4 M n k))
def R270_5:RegF:=λa e M n k=>oA (.nil) (oA i1 (e.t q4 (.nil) λe=>Z e q5 i1 M n k))
def S270:List (P × I):=[(s0,q0),(s1,q1),(s6,q2),(s9,q3),(s4,q4),(s5,q5)]
def G270:F2:=.mk (λa e M n k=>R270_0 a e M n λe M n=>R98_1 a e M n λe M n=>C e q2 (R270_2 a e M n λe M n=>C e q3 (R270_3 a e M n λe M n=>k .r e M n) (R270_4 a e M n λe M n=>k .r e M n)) (R270_5 a e M n λe M n=>k .r e M n)) [.t q4,.t q5] [q0,q1]
def R271_0:RegF:=λa e M n k=>Y e q12 .nils M n k
def R271_1:RegF:=λa e M n k=>e.g q0 λb=>e.g q1 λc=>oA b (oA c (callV a s270 [b,c] M n λd M n=>oA d (v_ext d 0 λf=>v_ext d 1 λg=>oA f (oA g (e.t q6 f λe=>Z e q4 g M n k)))))
def R271_2:RegF:=λa e M n k=>e.g q4 λb=>oA b (v_ne b i0 λc=>Z e q5 c M n k)
def R271_4:RegF:=λa e M n k=>e.g q3 λb=>oA b (callV a s307 [b] M n λc M n=>Y e q12 c M n k)
def R271_5:RegF:=λa e M n k=>e.g q6 λb=>oA b (oA i0 (e.t q8 b λe=>Z e q2 i0 M n k))
def R271_6:RegF:=λa e M n k=>e.g q2 λb=>v_lt b i8 λc=>Z e q7 c M n k
def R271_8:RegF:=λa e M n k=>e.g q2 λb=>e.g q8 λc=>(λW=>oA b (v_nck c λd=>v_ixA d b 8 1 λf=>L M f λg=>oA b (oA g (bR (e.t q11 b λe=>Z e q9 g M n k) (keptB W M []))))) M
def R271_9:RegF:=λa e M n k=>e.g q9 λb=>oA b (v_nqP true b λc=>Z e q10 c M n k)
def R271_10:RegF:=λa e M n k=>e.g q3 λb=>e.g q11 λc=>oA b (oA c (bslV 3 1 1 [i0] [(0,1,c)] M n λd M n=>appV 3 1 8 b d M n λf M n=>Y e q3 f M n k))
def S271:List (P × I):=[(s0,q0),(s1,q1),(s19,q2),(s7,q3),(s6,q4),(s17,q5),(s5,q6),(s20,q7),(s18,q8),(s9,q9),(s26,q10),(s8,q11),(s4,q12)]
def G271:F2:=.mk (λa e M n k=>R271_0 a e M n λe M n=>R271_1 a e M n λe M n=>R271_2 a e M n λe M n=>C e q5 (R30_0 a e M n λe M n=>(λ(j0:K3)=>R271_5 a e M n λe M n=>(λ(j1:K3)=>loopK (λa e M n k=>R271_6 a e M n λe M n=>C e q7 (k (.x 0) e M n) ((λ(j2:K3)=>(λ(j3:K3)=>R271_8 a e M n λe M n=>R271_9 a e M n λe M n=>(λ(j4:K3)=>C e q10 (j4 e M n) (R271_10 a e M n j4)) j3) j2) λe M n=>R14_15 a e M n λe M n=>k .n e M n)) a e M n (X k j1 0)) j0) λe M n=>R271_4 a e M n λe M n=>k .r e M n) (R271_0 a e M n λe M n=>k .r e M n)) [.t q12] [q0,q1]
def R272_1:RegF:=λa e M n k=>e.g q0 λb=>e.g q1 λc=>e.g q2 λd=>oA b (oA c (oA d (callV a s308 [b,c,d] M n λf M n=>oA f (v_ext f 0 λg=>v_ext f 1 λh=>oA g (oA h (e.t q3 g λe=>Z e q4 h M n k))))))
def R272_3:RegF:=λa e M n k=>e.g q0 λb=>e.g q1 λc=>e.g q2 λd=>oA b (v_nck b λf=>v_fa f 2 λg=>L M g λh=>oA c (lkuV .nil false h c M λl=>oA d (v_nck l λm=>v_ixA m d 8 1 λo=>stV M o (.nil) 1 λM=>k e M n)))
def R272_4:RegF:=λa e M n k=>e.g q3 λb=>oA b (v_nck b λc=>v_fa c 5 λd=>L M d λf=>v_sub f i1 λg=>v_nck b λh=>v_fa h 5 λl=>stV M l g 1 λM=>k e M n)
def R272_6:RegF:=λa e M n k=>e.g q3 λb=>oA b (v_nck b λc=>v_fa c 5 λd=>L M d λf=>v_lt i0 f λg=>Y e q6 g M n k)
def R272_7:RegF:=λa e M n k=>e.g q3 λb=>oA b (v_nck b λc=>v_fa c 0 λd=>L M d λf=>Y e q7 f M n k)
def R272_8:RegF:=λa e M n k=>e.g q0 λb=>e.g q3 λc=>(λW=>oA b (v_nck b λd=>v_fa d 0 λf=>L M f λg=>callV a s310 [g] M n λh M n=>oA c (v_nck c λl=>v_fa l 2 λm=>ldV M m 1 false λo p=>callV a s311 [h,p] M n λq M n=>bR (k e M n) (keptB W M (o :: []))))) M
def R272_9:RegF:=λa e M n k=>e.g q0 λb=>e.g q3 λc=>(λW=>oA b (v_nck b λd=>v_fa d 1 λf=>L M f λg=>oA c (v_nck c λh=>v_fa h 2 λl=>L M l λm=>oA c (v_nck c λo=>v_fa o 1 λp=>L M p λq=>callV a s309 [g,m,q] M n λr M n=>bR (k e M n) (keptB W M []))))) M
def R272_10:RegF:=λa e M n k=>e.g q4 λb=>oA b (Y e q8 b M n k)
def S272:List (P × I):=[(s0,q0),(s1,q1),(s2,q2),(s7,q3),(s8,q4),(s17,q5),(s45,q6),(s51,q7),(s6,q8)]
def G272:F2:=.mk (λa e M n k=>R66_0 a e M n λe M n=>R272_1 a e M n λe M n=>R271_2 a e M n λe M n=>C e q5 (R272_3 a e M n λe M n=>R272_4 a e M n λe M n=>(λ(j0:K3)=>(λ(j1:K3)=>R272_6 a e M n λe M n=>(λ(j2:K3)=>C e q6 (R272_7 a e M n λe M n=>(λ(j3:K3)=>C e q7 (R272_8 a e M n j3) (R272_9 a e M n j3)) j2) (j2 e M n)) j1) j0) λe M n=>R66_0 a e M n λe M n=>k .r e M n) (R272_10 a e M n λe M n=>k .r e M n)) [.t q8] [q0,q1,q2]
def R277_0:RegF:=λa e M n k=>Y e q13 i0 M n k
def R277_2:RegF:=λa e M n k=>e.g q4 λb=>oA b (v_ne b i0 λc=>Z e q8 c M n k)
def R277_3:RegF:=λa e M n k=>e.g q0 λb=>e.g q2 λc=>oA b (oA c (callV a s98 [b,c] M n λd M n=>Y e q5 d M n k))
def R277_5:RegF:=λa e M n k=>e.g q0 λb=>e.g q2 λc=>e.g q6 λd=>(λW=>oA b (v_nck b λf=>v_fa f 2 λg=>L M g λh=>oA c (lkuV .nil false h c M λl=>oA d (v_nck d λm=>ldV M m 8 true λo p=>v_nck l λq=>bR (stV M q p 8 λM=>k e M n) (keptB W M (o :: [])))))) M
def R277_7:RegF:=λa e M n k=>e.g q6 λb=>oA b (oA i0 (e.t q11 b λe=>Z e q3 i0 M n k))
def R277_8:RegF:=λa e M n k=>e.g q3 λb=>v_lt b i8 λc=>Z e q10 c M n k
def R277_10:RegF:=λa e M n k=>e.g q11 λb=>e.g q3 λc=>v_nck b λd=>v_ixA d c 8 1 λf=>L M f λg=>Y e q7 g M n k
def R277_11:RegF:=λa e M n k=>e.g q7 λb=>oA b (v_nqP true b λc=>Z e q12 c M n k)
def R277_12:RegF:=λa e M n k=>e.g q7 λb=>oA b (v_nck b λc=>v_fa c 5 λd=>L M d λf=>v_add f i1 λg=>v_nck b λh=>v_fa h 5 λl=>stV M l g 1 λM=>k e M n)
def R277_13:RegF:=λa e M n k=>e.g q5 λb=>oA b (Y e q13 b M n k)
def R277_14:RegF:=λa e M n k=>e.g q4 λb=>oA b (Y e q13 b M n k)
def S277:List (P × I):=[(s0,q0),(s1,q1),(s2,q2),(s38,q3),(s8,q4),(s9,q5),(s7,q6),(s11,q7),(s19,q8),(s25,q9),(s39,q10),(s37,q11),(s44,q12),(s6,q13)]
def G277:F2:=.mk (λa e M n k=>R277_0 a e M n λe M n=>R271_1 a e M n λe M n=>R277_2 a e M n λe M n=>C e q8 (R277_3 a e M n λe M n=>R230_3 a e M n λe M n=>C e q9 (R277_5 a e M n λe M n=>(λ(j0:K3)=>R277_7 a e M n λe M n=>(λ(j1:K3)=>loopK (λa e M n k=>R277_8 a e M n λe M n=>C e q10 (k (.x 0) e M n) ((λ(j2:K3)=>(λ(j3:K3)=>R277_10 a e M n λe M n=>R277_11 a e M n λe M n=>(λ(j4:K3)=>C e q12 (j4 e M n) (R277_12 a e M n j4)) j3) j2) λe M n=>R10_26 a e M n λe M n=>k .n e M n)) a e M n (X k j1 0)) j0) λe M n=>R277_0 a e M n λe M n=>k .r e M n) (R277_13 a e M n λe M n=>k .r e M n)) (R277_14 a e M n λe M n=>k .r e M n)) [.t q13] [q0,q1,q2]
def R278_0:RegF:=λa e M n k=>alV 70 [i0,i0,(.str [])] M n λb M n=>Z e q2 b M n k
def R278_2:RegF:=λa e M n k=>e.g q0 λb=>e.g q2 λc=>oA b (v_bld [i0,i0,(.str [])] [(1,1,b)] λd=>stV M c d 3 λM=>k e M n)
def R278_3:RegF:=λa e M n k=>e.g q1 λb=>e.g q2 λc=>oA b (v_bld [i0,i0,(.str [])] [(0,1,b)] λd=>stV M c d 3 λM=>k e M n)
def S278:List (P × I):=[(s0,q0),(s1,q1),(s4,q2),(s6,q3)]
def G278:F2:=.mk (λa e M n k=>R278_0 a e M n λe M n=>R50_2 a e M n λe M n=>C e q3 (R278_2 a e M n λe M n=>k .r e M n) (R278_3 a e M n λe M n=>k .r e M n)) [.c q2 3 true] [q0,q1]
def R280_0:RegF:=λa e M n k=>e.g q2 λb=>bxV 64 b M n λc M n=>alV 70 [i0,i0,(.str [])] M n λd M n=>e.t q7 c λe=>Z e q6 d M n k
def R280_1:RegF:=λa e M n k=>e.g q0 λb=>e.g q1 λc=>e.g q7 λd=>(λW=>oA b (v_nck b λf=>v_fa f 2 λg=>L M g λh=>oA c (v_fa d 1 λl=>L M l λm=>v_fa d 2 λo=>L M o λp=>callV a s316 [h,c,m,p] M n λq M n=>oA q (v_ext q 0 λr=>v_ext q 1 λs=>oA r (oA s (bR (e.t q3 r λe=>Z e q4 s M n k) (keptB W M []))))))) M
def R280_2:RegF:=λa e M n k=>e.g q3 λb=>e.g q4 λc=>oA b (v_lenS b λd=>oA c (callV a s278 [d,c] M n λf M n=>alV 70 [i0,i0,(.str [])] M n λg M n=>stV M g f 3 λM=>Z e q5 g M n k))
def R280_3:RegF:=λa e M n k=>e.g q5 λb=>e.g q6 λc=>ldW M b 3 true λ_ d=>stV M c d 3 λM=>k e M n
def R280_4:RegF:=λa e M n k=>e.g q4 λb=>oA b (v_eq b i0 λc=>Z e q8 c M n k)
def R280_5:RegF:=λa e M n k=>e.g q3 λb=>e.g q5 λc=>oA b (cvbV b M λd=>v_fa c 2 λf=>stV M f d 1 λM=>k e M n)
def S280:List (P × I):=[(s0,q0),(s1,q1),(s2,q2),(s7,q3),(s8,q4),(s9,q5),(s6,q6),(s5,q7),(s28,q8)]
def G280:F2:=.mk (λa e M n k=>R280_0 a e M n λe M n=>R280_1 a e M n λe M n=>R280_2 a e M n λe M n=>(λ(j0:K3)=>R280_4 a e M n λe M n=>(λ(j1:K3)=>C e q8 (j1 e M n) (R280_5 a e M n j1)) j0) λe M n=>R280_3 a e M n λe M n=>k .r e M n) [.c q6 3 true] [q0,q1,q2]
def R281_0:RegF:=λa e M n k=>oA i0 (oA i0 (e.t q12 i0 λe=>Z e q13 i0 M n k))
def R281_1:RegF:=λa e M n k=>e.g q0 λb=>e.g q1 λc=>e.g q2 λd=>oA b (oA c (oA d (callV a s308 [b,c,d] M n λf M n=>oA f (v_ext f 0 λg=>v_ext f 1 λh=>oA g (oA h (e.t q4 g λe=>Z e q5 h M n k))))))
def R281_2:RegF:=λa e M n k=>e.g q5 λb=>oA b (v_ne b i0 λc=>Y e q7 c M n k)
def R281_3:RegF:=λa e M n k=>e.g q4 λb=>oA b (v_nck b λc=>v_fa c 0 λd=>L M d λf=>oA f (gM f M n b λg M n=>gP f M n (v_nck g) λh M n=>gP f M n (v_fa h 1) λl M n=>gL f M n l λm M n=>gP f M n (v_not m) λo M n=>v_pick f o bf λp=>Y e q8 p M n k))
def R281_4:RegF:=λa e M n k=>e.g q0 λb=>oA b (v_mkf s317 [b] [] λc=>Y e q10 c M n k)
def R281_5:RegF:=λa e M n k=>e.g q10 λb=>e.g q4 λc=>e.g q3 λd=>oA b (oA c (oA d (cvV a b [c,d] M n λf M n=>Y e q6 f M n k)))
def R281_6:RegF:=λa e M n k=>e.g q6 λb=>oA b (v_ne b i0 λc=>Z e q11 c M n k)
def R281_7:RegF:=λa e M n k=>e.g q3 λb=>oA b (v_lenS b λc=>oA c (oA i0 (e.t q12 c λe=>Z e q13 i0 M n k)))
def R281_8:RegF:=λa e M n k=>e.g q6 λb=>oA b (oA i0 (oA b (e.t q12 i0 λe=>Z e q13 b M n k)))
def R281_9:RegF:=λa e M n k=>e.g q4 λb=>oA b (v_nck b λc=>v_fa c 0 λd=>L M d λf=>Z e q9 f M n k)
def R281_10:RegF:=λa e M n k=>e.g q0 λb=>oA b (v_mkf s318 [b] [] λc=>Y e q10 c M n k)
def R281_11:RegF:=λa e M n k=>oA i0 (oA i8 (e.t q12 i0 λe=>Z e q13 i8 M n k))
def R281_12:RegF:=λa e M n k=>e.g q5 λb=>oA b (oA i0 (oA b (e.t q12 i0 λe=>Z e q13 b M n k)))
def S281:List (P × I):=[(s0,q0),(s1,q1),(s2,q2),(s3,q3),(s10,q4),(s11,q5),(s13,q6),(s21,q7),(s25,q8),(s42,q9),(s12,q10),(s50,q11),(s8,q12),(s9,q13)]
def G281:F2:=.mk (λa e M n k=>R281_0 a e M n λe M n=>R281_1 a e M n λe M n=>R281_2 a e M n λe M n=>C e q7 (R281_3 a e M n λe M n=>C e q8 (R281_4 a e M n λe M n=>(λ(j0:K3)=>R281_9 a e M n λe M n=>(λ(j1:K3)=>C e q9 (j1 e M n) (R281_10 a e M n j1)) j0) λe M n=>R281_5 a e M n λe M n=>R281_6 a e M n λe M n=>C e q11 (R281_7 a e M n λe M n=>k .r e M n) (R281_8 a e M n λe M n=>k .r e M n)) (R281_11 a e M n λe M n=>k .r e M n)) (R281_12 a e M n λe M n=>k .r e M n)) [.t q12,.t q13] [q0,q1,q2,q3]
def R288_0:RegF:=λa e M n k=>oA i0 (oA i0 (e.t q7 i0 λe=>Z e q8 i0 M n k))
def R288_1:RegF:=λa e M n k=>e.g q0 λb=>e.g q1 λc=>oA b (oA c (callV a s314 [b,c,i2] M n λd M n=>oA d (v_ext d 0 λf=>v_ext d 1 λg=>oA f (oA g (e.t q3 f λe=>Z e q2 g M n k)))))
def R288_2:RegF:=λa e M n k=>e.g q2 λb=>oA b (v_ne b i0 λc=>Z e q5 c M n k)
def R288_3:RegF:=λa e M n k=>e.g q0 λb=>oA b (v_nck b λc=>v_fa c 1 λd=>L M d λf=>callV a s327 [f] M n λg M n=>oA g (v_ext g 0 λh=>v_ext g 1 λl=>oA h (oA l (e.t q4 h λe=>Z e q2 l M n k))))
def R288_4:RegF:=λa e M n k=>e.g q2 λb=>oA b (v_ne b i0 λc=>Z e q6 c M n k)
def R288_5:RegF:=λa e M n k=>e.g q0 λb=>e.g q1 λc=>e.g q3 λd=>e.g q4 λf=>(λW=>oA b (v_nck b λg=>v_fa g 2 λh=>L M h λl=>oA c (lkuV .nil false l c M λm=>oA d (v_ixS d i0 1 λo=>ldV M o 1 false λp q=>oA f (v_bld [bf,bf,i0,i0,bf,i0] [(0,1,bt),(2,1,f),(5,1,i1)] λr=>bxV 402 r M n λs M n=>v_nck m λt=>v_ixA t q 8 1 λu=>bR (stV M u s 1 λM=>k e M n) (keptB W M (p :: []))))))) M
def R288_6:RegF:=λa e M n k=>e.g q0 λb=>e.g q1 λc=>e.g q3 λd=>e.g q4 λf=>(λW=>oA b (v_nck b λg=>v_fa g 2 λh=>L M h λl=>oA c (lkuV .nil false l c M λm=>oA d (v_ixS d i1 1 λo=>ldV M o 1 false λp q=>oA f (v_bld [bf,bf,i0,i0,bf,i0] [(0,1,bt),(1,1,bt),(2,1,f),(5,1,i1)] λr=>bxV 402 r M n λs M n=>v_nck m λt=>v_ixA t q 8 1 λu=>bR (stV M u s 1 λM=>k e M n) (keptB W M (p :: []))))))) M
def R288_7:RegF:=λa e M n k=>e.g q3 λb=>(λW=>oA b (v_ixS b i0 1 λc=>L M c λd=>v_mul i16 d λf=>oA b (v_ixS b i1 1 λg=>L M g λh=>v_add f h λl=>oA l (oA i0 (bR (e.t q7 l λe=>Z e q8 i0 M n k) (keptB W M [])))))) M
def R288_8:RegF:=λa e M n k=>e.g q2 λb=>oA b (oA i0 (oA b (e.t q7 i0 λe=>Z e q8 b M n k)))
def S288:List (P × I):=[(s0,q0),(s1,q1),(s7,q2),(s6,q3),(s8,q4),(s16,q5),(s27,q6),(s4,q7),(s5,q8)]
def G288:F2:=.mk (λa e M n k=>R288_0 a e M n λe M n=>R288_1 a e M n λe M n=>R288_2 a e M n λe M n=>C e q5 (R288_3 a e M n λe M n=>R288_4 a e M n λe M n=>C e q6 (R288_5 a e M n λe M n=>R288_6 a e M n λe M n=>R288_7 a e M n λe M n=>k .r e M n) (R288_8 a e M n λe M n=>k .r e M n)) (R288_8 a e M n λe M n=>k .r e M n)) [.t q7,.t q8] [q0,q1]
def R293_0:RegF:=λa e M n k=>e.g q0 λb=>bxV 64 b M n λc M n=>alV 64 [i0,i0,i0,(.str []),(.str [])] M n λd M n=>oA bf (e.t q2 c λe=>e.t q1 d λe=>Z e q3 bf M n k)
def R293_1:RegF:=λa e M n k=>e.g q2 λb=>e.g q1 λc=>(λW=>v_fa b 1 λd=>ldV M d 1 false λf g=>v_bld [i0,i0,i0,(.str []),(.str [])] [(1,1,g)] λh=>v_fa b 1 λl=>L M l λm=>callV a s233 [m,i0,i7] M n λo M n=>stV M c h 5 λM=>oA o (bR (Z e q3 o M n k) (keptB W M (f :: [])))) M
def S293:List (P × I):=[(s0,q0),(s2,q1),(s1,q2),(s3,q3)]
def G293:F2:=.mk (λa e M n k=>R293_0 a e M n λe M n=>R293_1 a e M n λe M n=>k .r e M n) [.c q1 5 true,.t q3] [q0]
def R294_1:RegF:=λa e M n k=>e.g q2 λb=>e.g q1 λc=>(λW=>v_fa b 1 λd=>ldV M d 1 false λf g=>v_fa b 2 λh=>ldV M h 1 false λl m=>v_bld [i0,i0,i0,(.str []),(.str [])] [(1,1,g),(2,1,m)] λo=>v_fa b 1 λp=>L M p λq=>callV a s233 [q,i0,i7] M n λr M n=>oA r (gP r M n (v_fa b 2) λs M n=>gL r M n s λt M n=>gN r M n (λj=>callV a s233 [t,i0,i512] M n λv M n=>j v M n) λu M n=>v_pick r u bf λw=>stV M c o 5 λM=>oA w (bR (Z e q3 w M n k) (keptB W M (l :: (f :: [])))))) M
def S294:List (P × I):=[(s0,q0),(s2,q1),(s1,q2),(s3,q3)]
def G294:F2:=.mk (λa e M n k=>R293_0 a e M n λe M n=>R294_1 a e M n λe M n=>k .r e M n) [.c q1 5 true,.t q3] [q0]
def R295_1:RegF:=λa e M n k=>e.g q2 λc=>e.g q1 λd=>(λW=>v_fa c 1 λf=>ldV M f 1 false λg h=>v_fa c 3 λl=>ldV M l 1 false λm o=>v_bld [i0,i0,i0,(.str []),(.str [])] [(1,1,h),(3,1,o)] λp=>v_fa c 1 λq=>L M q λr=>callV a s233 [r,i0,i7] M n λs M n=>oA s (gP s M n (v_fa c 3) λt M n=>gsK s true (m :: (g :: [])) (λj=>ldV M t 1 false λb v=>j v (b :: (m :: (g :: [])))) λu av11=>gP s M n (v_lenT u) λw M n=>gP s M n (v_le w i512) λx M n=>v_pick s x bf λy=>stV M d p 5 λM=>oA y (bR (Z e q3 y M n k) (keptB W M av11)))) M
def S295:List (P × I):=[(s0,q0),(s2,q1),(s1,q2),(s3,q3)]
def G295:F2:=.mk (λa e M n k=>R293_0 a e M n λe M n=>R295_1 a e M n λe M n=>k .r e M n) [.c q1 5 true,.t q3] [q0]
def R298_0:RegF:=λa e M n k=>e.g q0 λb=>bxV 64 b M n λc M n=>alV 64 [i0,i0,i0,(.str []),(.str [])] M n λd M n=>oA bf (e.t q1 d λe=>Z e q2 bf M n k)
def R298_1:RegF:=λa e M n k=>e.g q1 λb=>v_bld [i0,i0,i0,(.str []),(.str [])] [] λc=>stV M b c 5 λM=>Y e q2 bt M n k
def S298:List (P × I):=[(s0,q0),(s2,q1),(s3,q2)]
def G298:F2:=.mk (λa e M n k=>R298_0 a e M n λe M n=>R298_1 a e M n λe M n=>k .r e M n) [.c q1 5 true,.t q2] [q0]
def R299_1:RegF:=λa e M n k=>e.g q2 λb=>e.g q1 λc=>(λW=>v_fa b 1 λd=>ldV M d 1 false λf g=>v_bld [i0,i0,i0,(.str []),(.str [])] [(1,1,g)] λh=>v_fa b 1 λl=>L M l λm=>callV a s233 [m,i0,i39] M n λo M n=>stV M c h 5 λM=>oA o (bR (Z e q3 o M n k) (keptB W M (f :: [])))) M
def S299:List (P × I):=[(s0,q0),(s2,q1),(s1,q2),(s3,q3)]
def G299:F2:=.mk (λa e M n k=>R293_0 a e M n λe M n=>R299_1 a e M n λe M n=>k .r e M n) [.c q1 5 true,.t q3] [q0]
def R300_1:RegF:=λa e M n k=>e.g q2 λb=>e.g q1 λc=>(λW=>v_fa b 1 λd=>ldV M d 1 false λf g=>v_bld [i0,i0,i0,(.str []),(.str [])] [(1,1,g)] λh=>v_fa b 1 λl=>L M l λm=>callV a s233 [m,i0,i255] M n λo M n=>stV M c h 5 λM=>oA o (bR (Z e q3 o M n k) (keptB W M (f :: [])))) M
def S300:List (P × I):=[(s0,q0),(s2,q1),(s1,q2),(s3,q3)]
def G300:F2:=.mk (λa e M n k=>R293_0 a e M n λe M n=>R300_1 a e M n λe M n=>k .r e M n) [.c q1 5 true,.t q3] [q0]
def R301_0:RegF:=λa e M n k=>oA (.int .u64 (.ofNat 0)) (e.t q4 (.int .u64 (.ofNat 0)) λe=>k e M n)
def R301_1:RegF:=λa e M n k=>e.g q1 λb=>oA b (v_lt b i0 λc=>oA c (hM c M n b λd M n=>hP c M n (v_lt i63 d) λf M n=>v_pick c bt f λg=>Z e q3 g M n k))
def R301_2:RegF:=λa e M n k=>e.g q2 λb=>e.g q0 λc=>e.g q1 λd=>oA b (oA c (oA d (v_conv .u64 d λf=>v_kop .shl (.int .u64 (.ofNat 1)) f λg=>cvV a b [c,g] M n λh M n=>Y e q4 h M n k)))
def R301_3:RegF:=λa e M n k=>e.g q0 λb=>oA b (Y e q4 b M n k)
def S301:List (P × I):=[(s0,q0),(s1,q1),(s2,q2),(s12,q3),(s6,q4)]
def G301:F2:=.mk (λa e M n k=>R301_0 a e M n λe M n=>R301_1 a e M n λe M n=>C e q3 (R301_2 a e M n λe M n=>k .r e M n) (R301_3 a e M n λe M n=>k .r e M n)) [.t q4] [q0,q1,q2]
def R302_1:RegF:=λa e M n k=>e.g q0 λb=>e.g q1 λc=>oA b (oA c (v_kop .or b c λd=>Y e q2 d M n k))
def S302:List (P × I):=[(s0,q0),(s1,q1),(s4,q2)]
def G302:F2:=.mk (λa e M n k=>R262_0 a e M n λe M n=>R302_1 a e M n λe M n=>k .r e M n) [.t q2] [q0,q1]
def R306_0:RegF:=λa e M n k=>e.g q0 λb=>bxV 254 b M n λc M n=>oA (.nilf) (e.t q1 c λe=>e.t q2 (.nilf) λe=>k e M n)
def R306_1:RegF:=λa e M n k=>e.g q1 λb=>v_mkf s338 [] [b] λc=>Y e q2 c M n k
def S306:List (P × I):=[(s0,q0),(s1,q1),(s2,q2)]
def G306:F2:=.mk (λa e M n k=>R306_0 a e M n λe M n=>R306_1 a e M n λe M n=>k .r e M n) [.t q2] [q0]
def R307_0:RegF:=λa e M n k=>Y e q1 .nils M n k
def R307_1:RegF:=λa e M n k=>e.g q0 λb=>oA b (oA b (v_lenS b λc=>oA b (v_lenS b λd=>v_sl3 b i0 c d 1 λf=>Y e q1 f M n k)))
def S307:List (P × I):=[(s0,q0),(s2,q1)]
def G307:F2:=.mk (λa e M n k=>R307_0 a e M n λe M n=>R307_1 a e M n λe M n=>k .r e M n) [.t q1] [q0]
def R308_0:RegF:=λa e M n k=>oA (.nil) (oA i0 (e.t q7 (.nil) λe=>Z e q8 i0 M n k))
def R308_1:RegF:=λa e M n k=>e.g q0 λb=>e.g q1 λc=>oA b (oA c (callV a s270 [b,c] M n λd M n=>oA d (v_ext d 0 λf=>v_ext d 1 λg=>oA f (oA g (e.t q4 f λe=>Z e q3 g M n k)))))
def R308_2:RegF:=λa e M n k=>e.g q3 λb=>oA b (v_ne b i0 λc=>Y e q5 c M n k)
def R308_3:RegF:=λa e M n k=>e.g q2 λb=>e.g q4 λc=>oA b (v_lt b i0 λd=>oA d (hM d M n b λf M n=>hP d M n (v_le i8 f) λg M n=>v_pick d bt g λh=>oA h (hM h M n c λl M n=>hM h M n b λm M n=>hP h M n (v_nck l) λo M n=>hP h M n (v_ixA o m 8 1) λp M n=>hL h M n p λq M n=>hP h M n (v_nqP false q) λr M n=>v_pick h bt r λs=>Y e q6 s M n k)))
def R308_4:RegF:=λa e M n k=>e.g q4 λb=>e.g q2 λc=>oA b (oA c (v_nck b λd=>v_ixA d c 8 1 λf=>L M f λg=>oA g (oA i0 (e.t q7 g λe=>Z e q8 i0 M n k))))
def R308_5:RegF:=λa e M n k=>oA (.nil) (oA i8 (e.t q7 (.nil) λe=>Z e q8 i8 M n k))
def R308_6:RegF:=λa e M n k=>e.g q3 λb=>oA b (oA (.nil) (oA b (e.t q7 (.nil) λe=>Z e q8 b M n k)))
def S308:List (P × I):=[(s0,q0),(s1,q1),(s2,q2),(s9,q3),(s8,q4),(s16,q5),(s20,q6),(s6,q7),(s7,q8)]
def G308:F2:=.mk (λa e M n k=>R308_0 a e M n λe M n=>R308_1 a e M n λe M n=>R308_2 a e M n λe M n=>C e q5 (R308_3 a e M n λe M n=>C e q6 (R308_4 a e M n λe M n=>k .r e M n) (R308_5 a e M n λe M n=>k .r e M n)) (R308_6 a e M n λe M n=>k .r e M n)) [.t q7,.t q8] [q0,q1,q2]
def R309_1:RegF:=λa e M n k=>e.g q0 λb=>e.g q1 λc=>oA b (oA c (callV a s339 [b,c] M n λd M n=>oA d (v_ext d 0 λf=>v_ext d 1 λg=>oA f (oA g (e.t q3 f λe=>Z e q4 g M n k)))))
def R309_2:RegF:=λa e M n k=>e.g q4 λb=>oA b (v_ne b i0 λc=>Y e q5 c M n k)
def R309_3:RegF:=λa e M n k=>e.g q3 λb=>e.g q2 λc=>(λW=>oA b (oA c (callV a s340 [c] M n λd M n=>v_nck b λf=>v_fa f 4 λg=>v_ixA g d 2 1 λh=>L M h λl=>v_eq l i0 λm=>oA m (bR (Z e q6 m M n k) (keptB W M []))))) M
def R309_4:RegF:=λa e M n k=>e.g q3 λb=>e.g q2 λc=>(λW=>oA b (oA c (callV a s340 [c] M n λd M n=>v_nck b λf=>v_fa f 4 λg=>v_ixA g d 2 1 λh=>L M h λl=>v_sub l i1 λm=>v_nck b λo=>v_fa o 4 λp=>v_ixA p d 2 1 λq=>bR (stV M q m 1 λM=>k e M n) (keptB W M [])))) M
def R309_6:RegF:=λa e M n k=>e.g q3 λb=>oA b (v_nck b λc=>v_fa c 4 λd=>ldW M d 2 true λ_ f=>v_bld [i0,i0] [] λg=>reqV false f g λh=>Z e q7 h M n k)
def R309_7:RegF:=λa e M n k=>e.g q0 λb=>e.g q3 λc=>(λW=>oA b (v_nck b λd=>v_fa d 0 λf=>L M f λg=>oA c (v_nck c λh=>v_fa h 0 λl=>ldW M l 3 true λ_ m=>callV a s341 [g,m] M n λo M n=>bR (k e M n) (keptB W M [])))) M
def R309_8:RegF:=λa e M n k=>e.g q0 λb=>e.g q1 λc=>oA b (oA c (v_nck b λd=>v_fa d 1 λf=>v_ixA f c 4 1 λg=>stV M g (.nil) 1 λM=>k e M n))
def S309:List (P × I):=[(s0,q0),(s1,q1),(s2,q2),(s7,q3),(s8,q4),(s15,q5),(s19,q6),(s44,q7),(s6,q8)]
def G309:F2:=.mk (λa e M n k=>R66_0 a e M n λe M n=>R309_1 a e M n λe M n=>R309_2 a e M n λe M n=>C e q5 (R309_3 a e M n λe M n=>C e q6 (R309_4 a e M n λe M n=>(λ(j0:K3)=>R309_6 a e M n λe M n=>(λ(j1:K3)=>C e q7 (j1 e M n) (R309_7 a e M n λe M n=>R309_8 a e M n j1)) j0) λe M n=>R66_0 a e M n λe M n=>k .r e M n) (R97_8 a e M n λe M n=>k .r e M n)) (R272_10 a e M n λe M n=>k .r e M n)) [.t q8] [q0,q1,q2]
def R314_0:RegF:=λa e M n k=>oA .nils (oA i0 (e.t q14 .nils λe=>Z e q15 i0 M n k))
def R314_1:RegF:=λa e M n k=>e.g q0 λb=>e.g q1 λc=>oA b (oA c (callV a s270 [b,c] M n λd M n=>oA d (v_ext d 0 λf=>v_ext d 1 λg=>oA f (oA g (e.t q7 f λe=>Z e q5 g M n k)))))
def R314_2:RegF:=λa e M n k=>e.g q5 λb=>oA b (v_ne b i0 λc=>Z e q6 c M n k)
def R314_4:RegF:=λa e M n k=>e.g q4 λb=>e.g q2 λc=>oA b (v_lenS b λd=>oA c (v_lt d c λf=>Z e q13 f M n k))
def R314_5:RegF:=λa e M n k=>e.g q4 λb=>oA b (oA b (oA i0 (e.t q14 b λe=>Z e q15 i0 M n k)))
def R314_6:RegF:=λa e M n k=>oA .nils (oA i14 (e.t q14 .nils λe=>Z e q15 i14 M n k))
def R314_7:RegF:=λa e M n k=>e.g q7 λb=>oA b (oA i0 (e.t q9 b λe=>Z e q3 i0 M n k))
def R314_8:RegF:=λa e M n k=>e.g q3 λb=>v_lt b i8 λc=>Z e q8 c M n k
def R314_10:RegF:=λa e M n k=>e.g q3 λb=>e.g q9 λc=>(λW=>oA b (v_nck c λd=>v_ixA d b 8 1 λf=>L M f λg=>oA b (oA g (bR (e.t q12 b λe=>Z e q10 g M n k) (keptB W M []))))) M
def R314_11:RegF:=λa e M n k=>e.g q10 λb=>oA b (v_nqP false b λc=>Z e q11 c M n k)
def R314_12:RegF:=λa e M n k=>e.g q4 λb=>e.g q12 λc=>oA b (oA c (bslV 3 1 1 [i0] [(0,1,c)] M n λd M n=>appV 3 1 8 b d M n λf M n=>Y e q4 f M n k))
def R314_13:RegF:=λa e M n k=>e.g q5 λb=>oA b (oA .nils (oA b (e.t q14 .nils λe=>Z e q15 b M n k)))
def S314:List (P × I):=[(s0,q0),(s1,q1),(s2,q2),(s23,q3),(s10,q4),(s9,q5),(s20,q6),(s8,q7),(s24,q8),(s22,q9),(s12,q10),(s30,q11),(s11,q12),(s39,q13),(s6,q14),(s7,q15)]
def G314:F2:=.mk (λa e M n k=>R314_0 a e M n λe M n=>R314_1 a e M n λe M n=>R314_2 a e M n λe M n=>C e q6 (R19_3 a e M n λe M n=>(λ(j0:K3)=>R314_7 a e M n λe M n=>(λ(j1:K3)=>loopK (λa e M n k=>R314_8 a e M n λe M n=>C e q8 (k (.x 0) e M n) ((λ(j2:K3)=>(λ(j3:K3)=>R314_10 a e M n λe M n=>R314_11 a e M n λe M n=>(λ(j4:K3)=>C e q11 (j4 e M n) (R314_12 a e M n j4)) j3) j2) λe M n=>R10_26 a e M n λe M n=>k .n e M n)) a e M n (X k j1 0)) j0) λe M n=>R314_4 a e M n λe M n=>C e q13 (R314_5 a e M n λe M n=>k .r e M n) (R314_6 a e M n λe M n=>k .r e M n)) (R314_13 a e M n λe M n=>k .r e M n)) [.t q14,.t q15] [q0,q1,q2]
def R316_0:RegF:=λa e M n k=>oA .nils (oA i0 (e.t q10 .nils λe=>Z e q11 i0 M n k))
def R316_2:RegF:=λa e M n k=>e.g q5 λb=>oA b (v_ne b i0 λc=>Y e q6 c M n k)
def R316_3:RegF:=λa e M n k=>e.g q4 λb=>oA b (v_nck b λc=>v_fa c 1 λd=>L M d λf=>Y e q7 f M n k)
def R316_4:RegF:=λa e M n k=>e.g q0 λb=>oA b (v_mkf s348 [b] [] λc=>Y e q9 c M n k)
def R316_5:RegF:=λa e M n k=>e.g q9 λb=>e.g q4 λc=>e.g q3 λd=>oA b (oA c (oA d (cvV a b [c,d] M n λf M n=>v_ext f 0 λg=>v_ext f 1 λh=>oA g (oA h (e.t q10 g λe=>Z e q11 h M n k)))))
def R316_6:RegF:=λa e M n k=>e.g q4 λb=>oA b (v_nck b λc=>v_fa c 0 λd=>L M d λf=>Z e q8 f M n k)
def R316_7:RegF:=λa e M n k=>e.g q0 λb=>oA b (v_mkf s349 [b] [] λc=>Y e q9 c M n k)
def R316_8:RegF:=λa e M n k=>oA .nils (oA i8 (e.t q10 .nils λe=>Z e q11 i8 M n k))
def R316_9:RegF:=λa e M n k=>e.g q5 λb=>oA b (oA .nils (oA b (e.t q10 .nils λe=>Z e q11 b M n k)))
def S316:List (P × I):=[(s0,q0),(s1,q1),(s2,q2),(s3,q3),(s10,q4),(s11,q5),(s20,q6),(s24,q7),(s34,q8),(s12,q9),(s8,q10),(s9,q11)]
def G316:F2:=.mk (λa e M n k=>R316_0 a e M n λe M n=>R281_1 a e M n λe M n=>R316_2 a e M n λe M n=>C e q6 (R316_3 a e M n λe M n=>C e q7 (R316_4 a e M n λe M n=>(λ(j0:K3)=>R316_6 a e M n λe M n=>(λ(j1:K3)=>C e q8 (j1 e M n) (R316_7 a e M n j1)) j0) λe M n=>R316_5 a e M n λe M n=>k .r e M n) (R316_8 a e M n λe M n=>k .r e M n)) (R316_9 a e M n λe M n=>k .r e M n)) [.t q10,.t q11] [q0,q1,q2,q3]
def R318_1:RegF:=λa e M n k=>e.g q0 λb=>e.g q1 λc=>e.g q2 λd=>(λW=>oA b (v_nck b λf=>v_fa f 1 λg=>L M g λh=>oA c (v_nck c λl=>v_fa l 2 λm=>L M m λo=>oA d (callV a s353 [h,o,d] M n λp M n=>oA p (bR (Z e q3 p M n k) (keptB W M [])))))) M
def S318:List (P × I):=[(s0,q0),(s1,q1),(s2,q2),(s6,q3)]
def G318:F2:=.mk (λa e M n k=>R6_15 a e M n λe M n=>R318_1 a e M n λe M n=>k .r e M n) [.t q3] [q0,q1,q2]
def R327_2:RegF:=λa e M n k=>e.g q0 λb=>oA b (v_nck b λc=>v_fa c 1 λd=>v_saA d 4 λf=>callV a s362 [f,(.nil)] M n λg M n=>Y e q1 g M n k)
def R327_3:RegF:=λa e M n k=>e.g q1 λb=>oA b (v_lt b i0 λc=>Z e q3 c M n k)
def R327_4:RegF:=λa e M n k=>e.g q0 λb=>oA b (v_nck b λc=>v_fa c 0 λd=>L M d λf=>callV a s363 [f,i64] M n λg M n=>oA g (v_ext g 0 λh=>v_ext g 1 λl=>alV 430 [i0,i0,i0] M n λm M n=>stV M m h 3 λM=>oA l (e.t q6 m λe=>Z e q4 l M n k)))
def R327_6:RegF:=λa e M n k=>e.g q0 λb=>e.g q1 λc=>e.g q6 λd=>(λW=>oA b (oA c (ldW M d 3 true λ_ f=>v_bld [i0,i0] [(0,1,i1),(1,1,i1)] λg=>v_bld [i0,i0,i0,.nils,i0,i0] [(0,3,f),(4,2,g)] λh=>bxV 433 h M n λl M n=>v_nck b λm=>v_fa m 1 λo=>v_ixA o c 4 1 λp=>bR (stV M p l 1 λM=>k e M n) (keptB W M [])))) M
def R327_7:RegF:=λa e M n k=>e.g q1 λb=>oA b (oA b (oA i0 (e.t q7 b λe=>Z e q8 i0 M n k)))
def R327_8:RegF:=λa e M n k=>oA i0 (oA i15 (e.t q7 i0 λe=>Z e q8 i15 M n k))
def R327_9:RegF:=λa e M n k=>oA i0 (oA i3 (e.t q7 i0 λe=>Z e q8 i3 M n k))
def R327_10:RegF:=λa e M n k=>oA i0 (oA i1 (e.t q7 i0 λe=>Z e q8 i1 M n k))
def S327:List (P × I):=[(s0,q0),(s4,q1),(s8,q2),(s15,q3),(s6,q4),(s25,q5),(s5,q6),(s2,q7),(s3,q8)]
def G327:F2:=.mk (λa e M n k=>R288_0 a e M n λe M n=>R30_1 a e M n λe M n=>C e q2 (R327_2 a e M n λe M n=>R327_3 a e M n λe M n=>C e q3 (R327_4 a e M n λe M n=>R271_2 a e M n λe M n=>C e q5 (R327_6 a e M n λe M n=>R327_7 a e M n λe M n=>k .r e M n) (R327_8 a e M n λe M n=>k .r e M n)) (R327_9 a e M n λe M n=>k .r e M n)) (R327_10 a e M n λe M n=>k .r e M n)) [.t q7,.t q8] [q0]
def R339_2:RegF:=λa e M n k=>e.g q1 λb=>e.g q0 λc=>oA b (v_lt b i0 λd=>oA d (hM d M n b λf M n=>hP d M n (v_le i4 f) λg M n=>v_pick d bt g λh=>oA h (hM h M n c λl M n=>hM h M n b λm M n=>hP h M n (v_nck l) λo M n=>hP h M n (v_fa o 1) λp M n=>hP h M n (v_ixA p m 4 1) λq M n=>hL h M n q λr M n=>hP h M n (v_nqP false r) λs M n=>v_pick h bt s λt=>Y e q3 t M n k)))
def R339_3:RegF:=λa e M n k=>e.g q0 λb=>e.g q1 λc=>oA b (oA c (v_nck b λd=>v_fa d 1 λf=>v_ixA f c 4 1 λg=>L M g λh=>oA h (oA i0 (e.t q4 h λe=>Z e q5 i0 M n k))))
def S339:List (P × I):=[(s0,q0),(s1,q1),(s6,q2),(s9,q3),(s4,q4),(s5,q5)]
def G339:F2:=.mk (λa e M n k=>R270_0 a e M n λe M n=>R98_1 a e M n λe M n=>C e q2 (R339_2 a e M n λe M n=>C e q3 (R339_3 a e M n λe M n=>k .r e M n) (R270_4 a e M n λe M n=>k .r e M n)) (R270_5 a e M n λe M n=>k .r e M n)) [.t q4,.t q5] [q0,q1]
def R340_3:RegF:=λa e M n k=>Y e q2 i1 M n k
def S340:List (P × I):=[(s0,q0),(s3,q1),(s2,q2)]
def G340:F2:=.mk (λa e M n k=>R35_3 a e M n λe M n=>R140_1 a e M n λe M n=>C e q1 (R35_3 a e M n λe M n=>k .r e M n) (R340_3 a e M n λe M n=>k .r e M n)) [.t q2] [q0]
def R349_0:RegF:=λa e M n k=>oA .nils (oA i0 (e.t q3 .nils λe=>Z e q4 i0 M n k))
def R349_1:RegF:=λa e M n k=>e.g q0 λb=>e.g q1 λc=>e.g q2 λd=>(λW=>oA b (v_nck b λf=>v_fa f 1 λg=>L M g λh=>oA c (v_nck c λl=>v_fa l 2 λm=>L M m λo=>oA d (callV a s373 [h,o,d] M n λp M n=>v_ext p 0 λq=>v_ext p 1 λr=>oA q (oA r (bR (e.t q3 q λe=>Z e q4 r M n k) (keptB W M []))))))) M
def S349:List (P × I):=[(s0,q0),(s1,q1),(s2,q2),(s6,q3),(s7,q4)]
def G349:F2:=.mk (λa e M n k=>R349_0 a e M n λe M n=>R349_1 a e M n λe M n=>k .r e M n) [.t q3,.t q4] [q0,q1,q2]
def R353_0:RegF:=λa e M n k=>Y e q12 i0 M n k
def R353_3:RegF:=λa e M n k=>e.g q3 λb=>oA b (v_nck b λc=>v_fa c 4 λd=>v_ixA d i1 2 1 λf=>L M f λg=>v_eq g i0 λh=>Y e q6 h M n k)
def R353_4:RegF:=λa e M n k=>e.g q3 λb=>oA b (v_nck b λc=>v_fa c 4 λd=>v_ixA d i0 2 1 λf=>L M f λg=>v_eq g i0 λh=>Y e q7 h M n k)
def R353_5:RegF:=λa e M n k=>e.g q2 λb=>oA b (v_lenS b λc=>v_eq c i0 λd=>Y e q8 d M n k)
def R353_6:RegF:=λa e M n k=>e.g q2 λb=>oA b (v_lenS b λc=>v_lt i64 c λd=>Y e q9 d M n k)
def R353_7:RegF:=λa e M n k=>e.g q2 λb=>e.g q3 λc=>oA b (v_lenS b λd=>oA c (v_nck c λf=>v_fa f 3 λg=>L M g λh=>v_lenS h λl=>v_sub i64 l λm=>v_lt m d λo=>Y e q10 o M n k))
def R353_8:RegF:=λa e M n k=>e.g q3 λb=>oA b (v_mkf s378 [b] [] λc=>Y e q11 c M n k)
def R353_9:RegF:=λa e M n k=>e.g q11 λb=>e.g q2 λc=>oA b (oA c (cvV a b [c] M n λd M n=>k e M n))
def R353_11:RegF:=λa e M n k=>Y e q12 i17 M n k
def R353_12:RegF:=λa e M n k=>Y e q12 i19 M n k
def R353_14:RegF:=λa e M n k=>Y e q12 i16 M n k
def R353_15:RegF:=λa e M n k=>Y e q12 i4 M n k
def R353_16:RegF:=λa e M n k=>e.g q4 λb=>oA b (Y e q12 b M n k)
def S353:List (P × I):=[(s0,q0),(s1,q1),(s2,q2),(s7,q3),(s8,q4),(s16,q5),(s20,q6),(s27,q7),(s34,q8),(s38,q9),(s42,q10),(s9,q11),(s6,q12)]
def G353:F2:=.mk (λa e M n k=>R353_0 a e M n λe M n=>R309_1 a e M n λe M n=>R309_2 a e M n λe M n=>C e q5 (R353_3 a e M n λe M n=>C e q6 (R353_4 a e M n λe M n=>C e q7 (R353_5 a e M n λe M n=>C e q8 (R353_6 a e M n λe M n=>C e q9 (R353_7 a e M n λe M n=>C e q10 (R353_8 a e M n λe M n=>R353_9 a e M n λe M n=>R353_0 a e M n λe M n=>k .r e M n) (R353_11 a e M n λe M n=>k .r e M n)) (R353_12 a e M n λe M n=>k .r e M n)) (R353_0 a e M n λe M n=>k .r e M n)) (R353_14 a e M n λe M n=>k .r e M n)) (R353_15 a e M n λe M n=>k .r e M n)) (R353_16 a e M n λe M n=>k .r e M n)) [.t q12] [q0,q1,q2]
def R362_5:RegF:=λa e M n k=>e.g q1 λb=>e.g q0 λc=>e.g q3 λd=>oA b (oA c (oA d (v_ixS c d 1 λf=>L M f λg=>peqV false b g M λh=>Z e q6 h M n k)))
def S362:List (P × I):=[(s0,q0),(s1,q1),(s8,q2),(s5,q3),(s7,q4),(s9,q5),(s16,q6),(s4,q7)]
def G362:F2:=.mk (λa e M n k=>R62_0 a e M n λe M n=>(λ(j0:K3)=>R62_2 a e M n λe M n=>(λ(j1:K3)=>loopK (λa e M n k=>R62_3 a e M n λe M n=>C e q5 (k (.x 0) e M n) (R62_4 a e M n λe M n=>R362_5 a e M n λe M n=>C e q6 (R14_15 a e M n λe M n=>k .n e M n) (R62_7 a e M n λe M n=>k .r e M n))) a e M n (X k j1 0)) j0) λe M n=>R62_1 a e M n λe M n=>k .r e M n) [.t q7] [q0,q1]
def R363_0:RegF:=λa e M n k=>alV 430 [i0,i0,i0] M n λb M n=>oA i0 (e.t q2 b λe=>Z e q18 i0 M n k)
def R363_1:RegF:=λa e M n k=>e.g q0 λb=>oA b (v_nqP false b λc=>Z e q10 c M n k)
def R363_2:RegF:=λa e M n k=>e.g q1 λb=>oA b (callV a s388 [b] M n λc M n=>Y e q3 c M n k)
def R363_3:RegF:=λa e M n k=>e.g q3 λb=>oA b (v_eq b i0 λc=>Z e q11 c M n k)
def R363_4:RegF:=λa e M n k=>e.g q0 λb=>oA b (v_nck b λc=>v_fa c 0 λd=>L M d λf=>cvV a f [] M n λg M n=>oA g (v_ext g 0 λh=>v_ext g 1 λl=>oA h (oA l (e.t q9 h λe=>Z e q8 l M n k))))
def R363_5:RegF:=λa e M n k=>e.g q8 λb=>oA b (v_ne b i0 λc=>Z e q17 c M n k)
def R363_6:RegF:=λa e M n k=>e.g q0 λb=>e.g q9 λc=>e.g q3 λd=>oA b (v_nck b λf=>v_fa f 2 λg=>L M g λh=>oA c (oA d (mkmV M n λl M n=>mupV l i0 i1 M λM=>oA l (v_bld [i0,.nilm] [(0,1,d),(1,1,l)] λm=>bxV 463 m M n λo M n=>mupV h c o M λM=>k e M n))))
def R363_7:RegF:=λa e M n k=>e.g q9 λb=>e.g q3 λc=>e.g q2 λd=>oA b (oA c (v_bld [i0,i0,i0] [(0,1,b),(1,1,i0),(2,1,c)] λf=>stV M d f 3 λM=>Y e q18 i0 M n k))
def R363_8:RegF:=λa e M n k=>e.g q8 λb=>e.g q2 λc=>v_bld [i0,i0,i0] [] λd=>oA b (stV M c d 3 λM=>Y e q18 b M n k)
def R363_9:RegF:=λa e M n k=>e.g q0 λb=>oA b (v_nck b λc=>v_fa c 2 λd=>L M d λf=>callV a s389 [f] M n λg M n=>callV a s247 [g] M n λh M n=>v_lenS h λl=>oA i0 (e.t q14 h λe=>e.t q12 l λe=>Z e q4 i0 M n k))
def R363_10:RegF:=λa e M n k=>e.g q4 λb=>e.g q12 λc=>v_lt b c λd=>Z e q13 d M n k
def R363_11:RegF:=λa e M n k=>e.g q14 λb=>e.g q4 λc=>v_ixS b c 1 λd=>L M d λf=>Y e q6 f M n k
def R363_12:RegF:=λa e M n k=>e.g q0 λb=>e.g q6 λc=>oA b (v_nck b λd=>v_fa d 2 λf=>L M f λg=>oA c (lkuV .nil false g c M λh=>Y e q5 h M n k))
def R363_13:RegF:=λa e M n k=>e.g q5 λb=>oA b (callV a s390 [b] M n λc M n=>oA c (v_ext c 0 λd=>v_ext c 1 λf=>oA d (oA f (e.t q7 d λe=>Z e q15 f M n k))))
def R363_14:RegF:=λa e M n k=>e.g q15 λb=>e.g q5 λc=>e.g q3 λd=>oA b (oA b (gM b M n c λf M n=>gP b M n (v_nck f) λg M n=>gP b M n (v_fa g 0) λh M n=>gL b M n h λl M n=>gM b M n d λm M n=>gP b M n (v_eq l m) λo M n=>v_pick b o bf λp=>Z e q16 p M n k))
def R363_16:RegF:=λa e M n k=>e.g q5 λb=>e.g q7 λc=>oA b (v_nck b λd=>v_fa d 1 λf=>L M f λg=>oA c (mupV g c i1 M λM=>k e M n))
def R363_17:RegF:=λa e M n k=>e.g q6 λb=>e.g q7 λc=>e.g q3 λd=>e.g q2 λf=>oA b (oA c (oA d (v_bld [i0,i0,i0] [(0,1,b),(1,1,c),(2,1,d)] λg=>stV M f g 3 λM=>Y e q18 i0 M n k)))
def R363_18:RegF:=λa e M n k=>e.g q2 λb=>v_bld [i0,i0,i0] [] λc=>stV M b c 3 λM=>Y e q18 i2 M n k
def R363_19:RegF:=λa e M n k=>e.g q2 λb=>v_bld [i0,i0,i0] [] λc=>stV M b c 3 λM=>Y e q18 i1 M n k
def S363:List (P × I):=[(s0,q0),(s1,q1),(s4,q2),(s6,q3),(s29,q4),(s9,q5),(s8,q6),(s10,q7),(s13,q8),(s12,q9),(s15,q10),(s20,q11),(s28,q12),(s30,q13),(s27,q14),(s11,q15),(s52,q16),(s72,q17),(s5,q18)]
def G363:F2:=.mk (λa e M n k=>R363_0 a e M n λe M n=>R363_1 a e M n λe M n=>C e q10 (R363_2 a e M n λe M n=>R363_3 a e M n λe M n=>C e q11 ((λ(j0:K3)=>R363_9 a e M n λe M n=>(λ(j1:K3)=>loopK (λa e M n k=>R363_10 a e M n λe M n=>C e q13 (k (.x 0) e M n) (R363_11 a e M n λe M n=>R363_12 a e M n λe M n=>R363_13 a e M n λe M n=>R363_14 a e M n λe M n=>C e q16 (R10_18 a e M n λe M n=>k .n e M n) (R363_16 a e M n λe M n=>R363_17 a e M n λe M n=>k .r e M n))) a e M n (X k j1 0)) j0) λe M n=>R363_4 a e M n λe M n=>R363_5 a e M n λe M n=>C e q17 (R363_6 a e M n λe M n=>R363_7 a e M n λe M n=>k .r e M n) (R363_8 a e M n λe M n=>k .r e M n)) (R363_18 a e M n λe M n=>k .r e M n)) (R363_19 a e M n λe M n=>k .r e M n)) [.c q2 3 true,.t q18] [q0,q1]
def R373_0:RegF:=λa e M n k=>oA .nils (oA i0 (e.t q11 .nils λe=>Z e q12 i0 M n k))
def R373_3:RegF:=λa e M n k=>e.g q3 λb=>oA b (v_nck b λc=>v_fa c 4 λd=>v_ixA d i0 2 1 λf=>L M f λg=>v_eq g i0 λh=>Y e q6 h M n k)
def R373_4:RegF:=λa e M n k=>e.g q2 λb=>oA b (v_lt b i0 λc=>Y e q7 c M n k)
def R373_5:RegF:=λa e M n k=>e.g q3 λb=>e.g q2 λc=>oA b (v_nck b λd=>v_fa d 3 λf=>L M f λg=>v_lenS g λh=>v_eq h i0 λl=>oA l (gM l M n c λm M n=>gP l M n (v_eq m i0) λo M n=>gM l M n o λp M n=>hM p M n b λq M n=>hP p M n (v_nck q) λr M n=>hP p M n (v_fa r 4) λs M n=>hP p M n (v_ixA s i1 2 1) λt M n=>hL p M n t λu M n=>hP p M n (v_eq u i0) λw M n=>gP l M n (v_pick p bt w) λx M n=>v_pick l x bf λy=>Y e q8 y M n k))
def R373_6:RegF:=λa e M n k=>e.g q3 λb=>oA b (v_nck b λc=>v_fa c 3 λd=>L M d λf=>v_lenS f λg=>v_eq g i0 λh=>Y e q9 h M n k)
def R373_7:RegF:=λa e M n k=>e.g q3 λb=>oA b (v_mkf s396 [b] [] λc=>Y e q10 c M n k)
def R373_8:RegF:=λa e M n k=>e.g q10 λb=>e.g q2 λc=>e.g q3 λd=>oA b (oA c (oA d (v_nck d λf=>v_fa f 3 λg=>L M g λh=>v_lenS h λl=>v_min c l λm=>mksV 5 1 1 [(.int .u8 (.ofNat 0))] m m M n λo M n=>cvV a b [o] M n λp M n=>oA p (oA i0 (e.t q11 p λe=>Z e q12 i0 M n k)))))
def R373_9:RegF:=λa e M n k=>oA .nils (oA i17 (e.t q11 .nils λe=>Z e q12 i17 M n k))
def R373_11:RegF:=λa e M n k=>oA .nils (oA i19 (e.t q11 .nils λe=>Z e q12 i19 M n k))
def R373_12:RegF:=λa e M n k=>oA .nils (oA i4 (e.t q11 .nils λe=>Z e q12 i4 M n k))
def R373_13:RegF:=λa e M n k=>e.g q4 λb=>oA b (oA .nils (oA b (e.t q11 .nils λe=>Z e q12 b M n k)))
def S373:List (P × I):=[(s0,q0),(s1,q1),(s2,q2),(s8,q3),(s9,q4),(s17,q5),(s21,q6),(s28,q7),(s31,q8),(s50,q9),(s10,q10),(s6,q11),(s7,q12)]
def G373:F2:=.mk (λa e M n k=>R373_0 a e M n λe M n=>R309_1 a e M n λe M n=>R309_2 a e M n λe M n=>C e q5 (R373_3 a e M n λe M n=>C e q6 (R373_4 a e M n λe M n=>C e q7 (R373_5 a e M n λe M n=>C e q8 (R373_6 a e M n λe M n=>C e q9 (R373_7 a e M n λe M n=>R373_8 a e M n λe M n=>k .r e M n) (R373_9 a e M n λe M n=>k .r e M n)) (R373_0 a e M n λe M n=>k .r e M n)) (R373_11 a e M n λe M n=>k .r e M n)) (R373_12 a e M n λe M n=>k .r e M n)) (R373_13 a e M n λe M n=>k .r e M n)) [.t q11,.t q12] [q0,q1,q2]
def R378_1:RegF:=λa e M n k=>e.g q0 λb=>e.g q1 λc=>oA b (oA b (v_nck b λd=>v_fa d 3 λf=>L M f λg=>oA c (appV 5 1 1 g c M n λh M n=>v_nck b λl=>v_fa l 3 λm=>stV M m h 1 λM=>k e M n)))
def S378:List (P × I):=[(s0,q0),(s1,q1),(s4,q2)]
def G378:F2:=.mk (λa e M n k=>R15_0 a e M n λe M n=>R378_1 a e M n λe M n=>R15_0 a e M n λe M n=>k .r e M n) [.t q2] [q0,q1]
def R388_2:RegF:=λa e M n k=>Y e q1 i16 M n k
def R388_3:RegF:=λa e M n k=>e.g q1 λb=>oA b (v_le b i64 λc=>Z e q2 c M n k)
def R388_4:RegF:=λa e M n k=>e.g q0 λb=>e.g q1 λc=>oA b (v_le i1 b λd=>oA d (gM d M n b λf M n=>gM d M n c λg M n=>gP d M n (v_le f g) λh M n=>v_pick d h bf λl=>Z e q3 l M n k))
def R388_5:RegF:=λa e M n k=>e.g q1 λb=>oA b (v_mul b i2 λc=>Y e q1 c M n k)
def R388_6:RegF:=λa e M n k=>e.g q1 λb=>oA b (Y e q4 b M n k)
def S388:List (P × I):=[(s0,q0),(s3,q1),(s5,q2),(s14,q3),(s2,q4)]
def G388:F2:=.mk (λa e M n k=>R6_7 a e M n λe M n=>(λ(j0:K3)=>R388_2 a e M n λe M n=>(λ(j1:K3)=>loopK (λa e M n k=>R388_3 a e M n λe M n=>C e q2 (k (.x 0) e M n) (R388_4 a e M n λe M n=>C e q3 (R388_5 a e M n λe M n=>k .n e M n) (R388_6 a e M n λe M n=>k .r e M n))) a e M n (X k j1 0)) j0) λe M n=>R6_7 a e M n λe M n=>k .r e M n) [.t q4] [q0]
def R389_0:RegF:=λa e M n k=>e.g q0 λb=>bxV 251 b M n λc M n=>oA (.nilf) (e.t q1 c λe=>e.t q2 (.nilf) λe=>k e M n)
def R389_1:RegF:=λa e M n k=>e.g q1 λb=>v_mkf s403 [] [b] λc=>Y e q2 c M n k
def S389:List (P × I):=[(s0,q0),(s1,q1),(s2,q2)]
def G389:F2:=.mk (λa e M n k=>R389_0 a e M n λe M n=>R389_1 a e M n λe M n=>k .r e M n) [.t q2] [q0]
def R396_1:RegF:=λa e M n k=>e.g q1 λb=>e.g q0 λc=>oA b (oA c (v_nck c λd=>v_fa d 3 λf=>L M f λg=>cpyV 1 b g M n λh M n=>Y e q2 h M n k))
def R396_2:RegF:=λa e M n k=>e.g q0 λb=>e.g q2 λc=>oA b (oA b (v_nck b λd=>v_fa d 3 λf=>L M f λg=>oA c (v_slL g c 1 λh=>callV a s404 [h] M n λl M n=>v_nck b λm=>v_fa m 3 λo=>stV M o l 1 λM=>k e M n)))
def R396_3:RegF:=λa e M n k=>e.g q1 λb=>e.g q2 λc=>oA b (oA c (v_slH b c λd=>Y e q3 d M n k))
def S396:List (P × I):=[(s0,q0),(s1,q1),(s5,q2),(s4,q3)]
def G396:F2:=.mk (λa e M n k=>R30_0 a e M n λe M n=>R396_1 a e M n λe M n=>R396_2 a e M n λe M n=>R396_3 a e M n λe M n=>k .r e M n) [.t q3] [q0,q1]
def R404_2:RegF:=λa e M n k=>e.g q0 λb=>bslV 5 1 0 [] [] M n λc M n=>oA b (appV 5 1 1 c b M n λd M n=>Y e q2 d M n k)
def S404:List (P × I):=[(s0,q0),(s4,q1),(s2,q2)]
def G404:F2:=.mk (λa e M n k=>R15_0 a e M n λe M n=>R32_1 a e M n λe M n=>C e q1 (R404_2 a e M n λe M n=>k .r e M n) (R15_0 a e M n λe M n=>k .r e M n)) [.t q2] [q0]
def FT0 : Tr F2 := (.nd .no (.nd .no (.nd .no (.nd .no (tl G85) .lf (tl G213) (tl G277)) (.nd G37 .lf (tl G165) .lf (tl G293)) (.nd .no (.nd .no (tl G373) .lf .lf .lf) (tl G181) (tl G245) (tl G309)) (.nd G69 (.nd G133 (tl G389) .lf .lf .lf) .lf (tl G261) .lf)) (.nd .no (.nd G25 (tl G89) (tl G153) (tl G217) (tl G281)) (.nd G41 (tl G105) (tl G169) (tl G233) .lf) (.nd .no (tl G121) .lf .lf .lf) (tl G73)) (.nd .no (.nd G29 (.nd G93 (tl G349) .lf .lf .lf) (tl G157) (tl G221) .lf) (.nd G45 (tl G109) (tl G173) (tl G237) (tl G301)) (.nd G61 .lf (tl G189) .lf .lf) (.nd G77 (tl G141) .lf (tl G269) .lf)) (.nd G17 (.nd G33 (.nd G97 (tl G353) .lf .lf .lf) (tl G161) .lf .lf) (.nd G49 .lf (tl G177) (tl G241) .lf) (.nd .no (tl G129) .lf (tl G257) .lf) (.nd G81 .lf (tl G209) .lf .lf))) (.nd .no (.nd G6 (.nd G22 (tl G86) .lf (tl G214) (tl G278)) (.nd G38 .lf (tl G166) (tl G230) (tl G294)) (.nd .no (tl G118) .lf (tl G246) .lf) (.nd G70 (tl G134) .lf (tl G262) .lf)) (.nd G10 (.nd G26 (tl G90) .lf .lf .lf) (.nd G42 (.nd G106 (tl G362) .lf .lf .lf) (tl G170) (tl G234) (tl G298)) (.nd G58 (.nd G122 (tl G378) .lf .lf .lf) .lf .lf (tl G314)) (.nd G74 (tl G138) .lf .lf .lf)) (.nd G14 (.nd G30 (tl G94) .lf (tl G222) .lf) (.nd G46 (tl G110) (tl G174) (tl G238) (tl G302)) (.nd G62 (tl G126) (tl G190) .lf (tl G318)) (.nd G78 (tl G142) (tl G206) (tl G270) .lf)) (.nd G18 (.nd G34 (tl G98) (tl G162) (tl G226) .lf) (.nd G50 (tl G114) (tl G178) (tl G242) (tl G306)) (.nd G66 (tl G130) (tl G194) (tl G258) .lf) (.nd G82 (tl G146) (tl G210) .lf .lf))) (.nd .no (.nd G7 (.nd G23 (tl G87) .lf .lf .lf) (.nd G39 .lf (tl G167) (tl G231) (tl G295)) (.nd .no (tl G119) .lf (tl G247) .lf) (.nd G71 (tl G135) (tl G199) .lf (tl G327))) (.nd .no (.nd G27 (tl G91) .lf .lf .lf) (.nd G43 (.nd .no (tl G363) .lf .lf .lf) (tl G171) .lf (tl G299)) (.nd .no .lf (tl G187) .lf .lf) (.nd G75 (tl G139) .lf .lf .lf)) (.nd G15 (.nd .no (tl G95) .lf (tl G223) .lf) (.nd G47 (tl G111) (tl G175) (tl G239) .lf) (.nd G63 .lf (tl G191) .lf .lf) (.nd G79 (tl G143) (tl G207) (tl G271) .lf)) (.nd G19 (.nd G35 (tl G99) (tl G163) (tl G227) .lf) (.nd G51 (tl G115) (tl G179) (tl G243) (tl G307)) (.nd G67 .lf (tl G195) (tl G259) .lf) (.nd G83 (tl G147) (tl G211) .lf (tl G339)))) (.nd .no (.nd .no (.nd G24 (tl G88) .lf (tl G216) (tl G280)) (.nd G40 (tl G104) (tl G168) (tl G232) .lf) (.nd G56 (tl G120) .lf (tl G248) .lf) (.nd G72 (tl G136) .lf .lf .lf)) (.nd .no (.nd G28 (tl G92) .lf (tl G220) .lf) (.nd G44 .lf .lf (tl G236) (tl G300)) (.nd .no .lf (tl G188) (tl G252) (tl G316)) (.nd G76 (.nd G140 (tl G396) .lf .lf .lf) .lf .lf .lf)) (.nd G16 (.nd G32 (tl G96) (tl G160) .lf (tl G288)) (.nd .no (tl G112) (tl G176) .lf .lf) (.nd G64 (tl G128) .lf .lf .lf) (.nd G80 (tl G144) (tl G208) (tl G272) .lf)) (.nd .no (.nd G36 (tl G100) (tl G164) (tl G228) .lf) (.nd G52 .lf (tl G180) .lf (tl G308)) (.nd G68 (.nd G132 (tl G388) .lf .lf .lf) (tl G196) (tl G260) .lf) (.nd .no (.nd .no (tl G404) .lf .lf .lf) (tl G212) .lf (tl G340)))))
def FT : Tr F2 := (.nd .no (.nd .no (.nd .no (.nd .no (tl G85) .lf (tl G213) (tl G277)) (.nd G37 .lf (tl G165) .lf (tl G293)) (.nd .no (.nd .no (tl G373) .lf .lf .lf) (tl G181) (tl G245) (tl G309)) (.nd G69 (.nd G133 (tl G389) .lf .lf .lf) .lf (tl G261) .lf)) (.nd .no (.nd G25 (tl G89) (tl G153) (tl G217) (tl G281)) (.nd G41 (tl G105) (tl G169) (tl G233) .lf) (.nd .no (tl G121) .lf .lf .lf) (tl G73)) (.nd .no (.nd G29 (.nd G93 (tl G349) .lf .lf .lf) (tl G157) (tl G221) .lf) (.nd G45 (tl G109) (tl G173) (tl G237) (tl G301)) (.nd G61 .lf (tl G189) .lf .lf) (.nd G77 (tl G141) .lf (tl G269) .lf)) (.nd G17 (.nd G33 (.nd G97 (tl G353) .lf .lf .lf) (tl G161) .lf .lf) (.nd G49 .lf (tl G177) (tl G241) .lf) (.nd .no (tl G129) .lf (tl G257) .lf) (.nd G81 .lf (tl G209) .lf .lf))) (.nd .no (.nd G6 (.nd G22 (tl G86) .lf (tl G214) (tl G278)) (.nd G38 .lf (tl G166) (tl G230) (tl G294)) (.nd .no (tl G118) .lf (tl G246) .lf) (.nd G70 (tl G134) .lf (tl G262) .lf)) (.nd G10 (.nd G26 (tl G90) .lf .lf .lf) (.nd G42 (.nd G106 (tl G362) .lf .lf .lf) (tl G170) (tl G234) (tl G298)) (.nd G58 (.nd G122 (tl G378) .lf .lf .lf) .lf .lf (tl G314)) (.nd G74 (tl G138) .lf .lf .lf)) (.nd G14 (.nd G30 (tl G94) .lf (tl G222) .lf) (.nd G46 (tl G110) (tl G174) (tl G238) (tl G302)) (.nd G62 (tl G126) (tl G190) .lf (tl G318)) (.nd G78 (tl G142) (tl G206) (tl G270) .lf)) (.nd G18 (.nd G34 (tl G98) (tl G162) (tl G226) .lf) (.nd G50 (tl G114) (tl G178) (tl G242) (tl G306)) (.nd G66 (tl G130) (tl G194) (tl G258) .lf) (.nd G82 (tl G146) (tl G210) .lf .lf))) (.nd .no (.nd G7 (.nd G23 (tl G87) .lf .lf .lf) (.nd G39 .lf (tl G167) (tl G231) (tl G295)) (.nd .no (tl G119) .lf (tl G247) .lf) (.nd G71 (tl G135) (tl G199) .lf (tl G327))) (.nd .no (.nd G27 (tl G91) .lf .lf .lf) (.nd G43 (.nd .no (tl G363) .lf .lf .lf) (tl G171) .lf (tl G299)) (.nd .no .lf (tl G187) .lf .lf) (.nd G75 (tl G139) .lf .lf .lf)) (.nd G15 (.nd .no (tl G95) .lf (tl G223) .lf) (.nd G47 (tl G111) (tl G175) (tl G239) .lf) (.nd G63 .lf (tl G191) .lf .lf) (.nd G79 (tl G143) (tl G207) (tl G271) .lf)) (.nd (.spec (wtickS 140)) (.nd G35 (tl G99) (tl G163) (tl G227) .lf) (.nd G51 (tl G115) (tl G179) (tl G243) (tl G307)) (.nd G67 .lf (tl G195) (tl G259) .lf) (.nd G83 (tl G147) (tl G211) .lf (tl G339)))) (.nd .no (.nd .no (.nd G24 (tl G88) .lf (tl G216) (tl G280)) (.nd G40 (tl G104) (tl G168) (tl G232) .lf) (.nd G56 (tl G120) .lf (tl G248) .lf) (.nd G72 (tl G136) .lf .lf .lf)) (.nd .no (.nd G28 (tl G92) .lf (tl G220) .lf) (.nd G44 .lf .lf (tl G236) (tl G300)) (.nd .no .lf (tl G188) (tl G252) (tl G316)) (.nd G76 (.nd G140 (tl G396) .lf .lf .lf) .lf .lf .lf)) (.nd (.spec awakeS) (.nd G32 (tl G96) (tl G160) .lf (tl G288)) (.nd .no (tl G112) (tl G176) .lf .lf) (.nd G64 (tl G128) .lf .lf .lf) (.nd G80 (tl G144) (tl G208) (tl G272) .lf)) (.nd .no (.nd G36 (tl G100) (tl G164) (tl G228) .lf) (.nd G52 .lf (tl G180) .lf (tl G308)) (.nd G68 (.nd G132 (tl G388) .lf .lf .lf) (tl G196) (tl G260) .lf) (.nd .no (.nd .no (tl G404) .lf .lf .lf) (tl G212) .lf (tl G340)))))
def FT1 : Tr F2 := (.nd .no (.nd .no (.nd .no (.nd .no (tl G85) .lf (tl G213) (tl G277)) (.nd G37 .lf (tl G165) .lf (tl G293)) (.nd .no (.nd .no (tl G373) .lf .lf .lf) (tl G181) (tl G245) (tl G309)) (.nd G69 (.nd G133 (tl G389) .lf .lf .lf) .lf (tl G261) .lf)) (.nd .no (.nd G25 (tl G89) (tl G153) (tl G217) (tl G281)) (.nd G41 (tl G105) (tl G169) (tl G233) .lf) (.nd .no (tl G121) .lf .lf .lf) (tl G73)) (.nd .no (.nd G29 (.nd G93 (tl G349) .lf .lf .lf) (tl G157) (tl G221) .lf) (.nd G45 (tl G109) (tl G173) (tl G237) (tl G301)) (.nd G61 .lf (tl G189) .lf .lf) (.nd G77 (tl G141) .lf (tl G269) .lf)) (.nd G17 (.nd G33 (.nd G97 (tl G353) .lf .lf .lf) (tl G161) .lf .lf) (.nd G49 .lf (tl G177) (tl G241) .lf) (.nd .no (tl G129) .lf (tl G257) .lf) (.nd G81 .lf (tl G209) .lf .lf))) (.nd .no (.nd G6 (.nd G22 (tl G86) .lf (tl G214) (tl G278)) (.nd G38 .lf (tl G166) (tl G230) (tl G294)) (.nd .no (tl G118) .lf (tl G246) .lf) (.nd G70 (tl G134) .lf (tl G262) .lf)) (.nd G10 (.nd G26 (tl G90) .lf .lf .lf) (.nd G42 (.nd G106 (tl G362) .lf .lf .lf) (tl G170) (tl G234) (tl G298)) (.nd G58 (.nd G122 (tl G378) .lf .lf .lf) .lf .lf (tl G314)) (.nd G74 (tl G138) .lf .lf .lf)) (.nd G14 (.nd G30 (tl G94) .lf (tl G222) .lf) (.nd G46 (tl G110) (tl G174) (tl G238) (tl G302)) (.nd G62 (tl G126) (tl G190) .lf (tl G318)) (.nd G78 (tl G142) (tl G206) (tl G270) .lf)) (.nd G18 (.nd G34 (tl G98) (tl G162) (tl G226) .lf) (.nd G50 (tl G114) (tl G178) (tl G242) (tl G306)) (.nd G66 (tl G130) (tl G194) (tl G258) .lf) (.nd G82 (tl G146) (tl G210) .lf .lf))) (.nd .no (.nd G7 (.nd G23 (tl G87) .lf .lf .lf) (.nd G39 .lf (tl G167) (tl G231) (tl G295)) (.nd .no (tl G119) .lf (tl G247) .lf) (.nd G71 (tl G135) (tl G199) .lf (tl G327))) (.nd .no (.nd G27 (tl G91) .lf .lf .lf) (.nd G43 (.nd .no (tl G363) .lf .lf .lf) (tl G171) .lf (tl G299)) (.nd .no .lf (tl G187) .lf .lf) (.nd G75 (tl G139) .lf .lf .lf)) (.nd G15 (.nd .no (tl G95) .lf (tl G223) .lf) (.nd G47 (tl G111) (tl G175) (tl G239) .lf) (.nd G63 .lf (tl G191) .lf .lf) (.nd G79 (tl G143) (tl G207) (tl G271) .lf)) (.nd G19 (.nd G35 (tl G99) (tl G163) (tl G227) .lf) (.nd G51 (tl G115) (tl G179) (tl G243) (tl G307)) (.nd G67 .lf (tl G195) (tl G259) .lf) (.nd G83 (tl G147) (tl G211) .lf (tl G339)))) (.nd .no (.nd .no (.nd G24 (tl G88) .lf (tl G216) (tl G280)) (.nd G40 (tl G104) (tl G168) (tl G232) .lf) (.nd G56 (tl G120) .lf (tl G248) .lf) (.nd G72 (tl G136) .lf .lf .lf)) (.nd .no (.nd G28 (tl G92) .lf (tl G220) .lf) (.nd G44 .lf .lf (tl G236) (tl G300)) (.nd .no .lf (tl G188) (tl G252) (tl G316)) (.nd G76 (.nd G140 (tl G396) .lf .lf .lf) .lf .lf .lf)) (.nd (.spec awakeS) (.nd G32 (tl G96) (tl G160) .lf (tl G288)) (.nd .no (tl G112) (tl G176) .lf .lf) (.nd G64 (tl G128) .lf .lf .lf) (.nd G80 (tl G144) (tl G208) (tl G272) .lf)) (.nd .no (.nd G36 (tl G100) (tl G164) (tl G228) .lf) (.nd G52 .lf (tl G180) .lf (tl G308)) (.nd G68 (.nd G132 (tl G388) .lf .lf .lf) (tl G196) (tl G260) .lf) (.nd .no (.nd .no (tl G404) .lf .lf .lf) (tl G212) .lf (tl G340)))))
end
end Ast
