/- Functions of the program in the words of the interpreter, printed by a program of mine; the first half. -/
import Derived.Test.YtfmjehkohlbebaaGreatDoorD3
set_option maxRecDepth 100000
set_option linter.unusedVariables false
namespace Ast
open Go Den
abbrev rep (n : Nat) (v : VV) : List VV := List.replicate n v
abbrev tl (v : F2) : Tr F2 := .nd v .lf .lf .lf .lf
def s0 : P := .z
def s1 : P := .a s0
def s2 : P := .b s0
def s3 : P := .c s0
def s4 : P := .d s0
def s5 : P := .a s1
def s6 : P := .b s1
def s7 : P := .c s1
def s8 : P := .d s1
def s9 : P := .a s2
def s10 : P := .b s2
def s11 : P := .c s2
def s12 : P := .d s2
def s13 : P := .a s3
def s14 : P := .b s3
def s15 : P := .c s3
def s16 : P := .d s3
def s17 : P := .a s4
def s18 : P := .b s4
def s19 : P := .c s4
def s20 : P := .d s4
def s21 : P := .a s5
def s22 : P := .b s5
def s23 : P := .c s5
def s24 : P := .d s5
def s25 : P := .a s6
def s26 : P := .b s6
def s27 : P := .c s6
def s28 : P := .d s6
def s29 : P := .a s7
def s30 : P := .b s7
def s31 : P := .c s7
def s32 : P := .d s7
def s33 : P := .a s8
def s34 : P := .b s8
def s35 : P := .c s8
def s36 : P := .d s8
def s37 : P := .a s9
def s38 : P := .b s9
def s39 : P := .c s9
def s40 : P := .d s9
def s41 : P := .a s10
def s42 : P := .b s10
def s43 : P := .c s10
def s44 : P := .d s10
def s45 : P := .a s11
def s46 : P := .b s11
def s47 : P := .c s11
def s48 : P := .d s11
def s49 : P := .a s12
def s50 : P := .b s12
def s51 : P := .c s12
def s52 : P := .d s12
def s53 : P := .a s13
def s54 : P := .b s13
def s55 : P := .c s13
def s56 : P := .d s13
def s57 : P := .a s14
def s58 : P := .b s14
def s59 : P := .c s14
def s60 : P := .d s14
def s61 : P := .a s15
def s62 : P := .b s15
def s63 : P := .c s15
def s64 : P := .d s15
def s65 : P := .a s16
def s66 : P := .b s16
def s67 : P := .c s16
def s68 : P := .d s16
def s69 : P := .a s17
def s70 : P := .b s17
def s71 : P := .c s17
def s72 : P := .d s17
def s73 : P := .a s18
def s74 : P := .b s18
def s75 : P := .c s18
def s76 : P := .d s18
def s77 : P := .a s19
def s78 : P := .b s19
def s79 : P := .c s19
def s80 : P := .d s19
def s81 : P := .a s20
def s82 : P := .b s20
def s83 : P := .c s20
def s84 : P := .d s20
def s85 : P := .a s21
def s86 : P := .b s21
def s87 : P := .c s21
def s88 : P := .d s21
def s89 : P := .a s22
def s90 : P := .b s22
def s91 : P := .c s22
def s92 : P := .d s22
def s93 : P := .a s23
def s94 : P := .b s23
def s95 : P := .c s23
def s96 : P := .d s23
def s97 : P := .a s24
def s98 : P := .b s24
def s99 : P := .c s24
def s100 : P := .d s24
def s101 : P := .a s25
def s102 : P := .b s25
def s103 : P := .c s25
def s104 : P := .d s25
def s105 : P := .a s26
def s106 : P := .b s26
def s107 : P := .c s26
def s108 : P := .d s26
def s109 : P := .a s27
def s110 : P := .b s27
def s111 : P := .c s27
def s112 : P := .d s27
def s113 : P := .a s28
def s114 : P := .b s28
def s115 : P := .c s28
def s116 : P := .d s28
def s117 : P := .a s29
def s118 : P := .b s29
def s119 : P := .c s29
def s120 : P := .d s29
def s121 : P := .a s30
def s122 : P := .b s30
def s123 : P := .c s30
def s124 : P := .d s30
def s125 : P := .a s31
def s126 : P := .b s31
def s127 : P := .c s31
def s128 : P := .d s31
def s129 : P := .a s32
def s130 : P := .b s32
def s131 : P := .c s32
def s132 : P := .d s32
def s133 : P := .a s33
def s134 : P := .b s33
def s135 : P := .c s33
def s136 : P := .d s33
def s137 : P := .a s34
def s138 : P := .b s34
def s139 : P := .c s34
def s140 : P := .d s34
def s141 : P := .a s35
def s142 : P := .b s35
def s143 : P := .c s35
def s144 : P := .d s35
def s145 : P := .a s36
def s146 : P := .b s36
def s147 : P := .c s36
def s148 : P := .d s36
def s149 : P := .a s37
def s150 : P := .b s37
def s151 : P := .c s37
def s152 : P := .d s37
def s153 : P := .a s38
def s154 : P := .b s38
def s155 : P := .c s38
def s156 : P := .d s38
def s157 : P := .a s39
def s158 : P := .b s39
def s159 : P := .c s39
def s160 : P := .d s39
def s161 : P := .a s40
def s162 : P := .b s40
def s163 : P := .c s40
def s164 : P := .d s40
def s165 : P := .a s41
def s166 : P := .b s41
def s167 : P := .c s41
def s168 : P := .d s41
def s169 : P := .a s42
def s170 : P := .b s42
def s171 : P := .c s42
def s172 : P := .d s42
def s173 : P := .a s43
def s174 : P := .b s43
def s175 : P := .c s43
def s176 : P := .d s43
def s177 : P := .a s44
def s178 : P := .b s44
def s179 : P := .c s44
def s180 : P := .d s44
def s181 : P := .a s45
def s182 : P := .b s45
def s183 : P := .c s45
def s184 : P := .d s45
def s185 : P := .a s46
def s186 : P := .b s46
def s187 : P := .c s46
def s188 : P := .d s46
def s189 : P := .a s47
def s190 : P := .b s47
def s191 : P := .c s47
def s192 : P := .d s47
def s193 : P := .a s48
def s194 : P := .b s48
def s195 : P := .c s48
def s196 : P := .d s48
def s197 : P := .a s49
def s198 : P := .b s49
def s199 : P := .c s49
def s200 : P := .d s49
def s201 : P := .a s50
def s202 : P := .b s50
def s203 : P := .c s50
def s204 : P := .d s50
def s205 : P := .a s51
def s206 : P := .b s51
def s207 : P := .c s51
def s208 : P := .d s51
def s209 : P := .a s52
def s210 : P := .b s52
def s211 : P := .c s52
def s212 : P := .d s52
def s213 : P := .a s53
def s214 : P := .b s53
def s215 : P := .c s53
def s216 : P := .d s53
def s217 : P := .a s54
def s218 : P := .b s54
def s219 : P := .c s54
def s220 : P := .d s54
def s221 : P := .a s55
def s222 : P := .b s55
def s223 : P := .c s55
def s224 : P := .d s55
def s225 : P := .a s56
def s226 : P := .b s56
def s227 : P := .c s56
def s228 : P := .d s56
def s229 : P := .a s57
def s230 : P := .b s57
def s231 : P := .c s57
def s232 : P := .d s57
def s233 : P := .a s58
def s234 : P := .b s58
def s235 : P := .c s58
def s236 : P := .d s58
def s237 : P := .a s59
def s238 : P := .b s59
def s239 : P := .c s59
def s240 : P := .d s59
def s241 : P := .a s60
def s242 : P := .b s60
def s243 : P := .c s60
def s244 : P := .d s60
def s245 : P := .a s61
def s246 : P := .b s61
def s247 : P := .c s61
def s248 : P := .d s61
def s249 : P := .a s62
def s250 : P := .b s62
def s251 : P := .c s62
def s252 : P := .d s62
def s253 : P := .a s63
def s254 : P := .b s63
def s255 : P := .c s63
def s256 : P := .d s63
def s257 : P := .a s64
def s258 : P := .b s64
def s259 : P := .c s64
def s260 : P := .d s64
def s261 : P := .a s65
def s262 : P := .b s65
def s263 : P := .c s65
def s264 : P := .d s65
def s265 : P := .a s66
def s266 : P := .b s66
def s267 : P := .c s66
def s268 : P := .d s66
def s269 : P := .a s67
def s270 : P := .b s67
def s271 : P := .c s67
def s272 : P := .d s67
def s273 : P := .a s68
def s274 : P := .b s68
def s275 : P := .c s68
def s276 : P := .d s68
def s277 : P := .a s69
def s278 : P := .b s69
def s279 : P := .c s69
def s280 : P := .d s69
def s281 : P := .a s70
def s282 : P := .b s70
def s283 : P := .c s70
def s284 : P := .d s70
def s285 : P := .a s71
def s286 : P := .b s71
def s287 : P := .c s71
def s288 : P := .d s71
def s289 : P := .a s72
def s290 : P := .b s72
def s291 : P := .c s72
def s292 : P := .d s72
def s293 : P := .a s73
def s294 : P := .b s73
def s295 : P := .c s73
def s296 : P := .d s73
def s297 : P := .a s74
def s298 : P := .b s74
def s299 : P := .c s74
def s300 : P := .d s74
def s301 : P := .a s75
def s302 : P := .b s75
def s303 : P := .c s75
def s304 : P := .d s75
def s305 : P := .a s76
def s306 : P := .b s76
def s307 : P := .c s76
def s308 : P := .d s76
def s309 : P := .a s77
def s310 : P := .b s77
def s311 : P := .c s77
def s312 : P := .d s77
def s313 : P := .a s78
def s314 : P := .b s78
def s315 : P := .c s78
def s316 : P := .d s78
def s317 : P := .a s79
def s318 : P := .b s79
def s319 : P := .c s79
def s320 : P := .d s79
def s321 : P := .a s80
def s322 : P := .b s80
def s323 : P := .c s80
def s324 : P := .d s80
def s325 : P := .a s81
def s326 : P := .b s81
def s327 : P := .c s81
def s328 : P := .d s81
def s329 : P := .a s82
def s330 : P := .b s82
def s331 : P := .c s82
def s332 : P := .d s82
def s333 : P := .a s83
def s334 : P := .b s83
def s335 : P := .c s83
def s336 : P := .d s83
def s337 : P := .a s84
def s338 : P := .b s84
def s339 : P := .c s84
def s340 : P := .d s84
def s341 : P := .a s85
def s342 : P := .b s85
def s343 : P := .c s85
def s344 : P := .d s85
def s345 : P := .a s86
def s346 : P := .b s86
def s347 : P := .c s86
def s348 : P := .d s86
def s349 : P := .a s87
def s350 : P := .b s87
def s351 : P := .c s87
def s352 : P := .d s87
def s353 : P := .a s88
def s354 : P := .b s88
def s355 : P := .c s88
def s356 : P := .d s88
def s357 : P := .a s89
def s358 : P := .b s89
def s359 : P := .c s89
def s360 : P := .d s89
def s361 : P := .a s90
def s362 : P := .b s90
def s363 : P := .c s90
def s364 : P := .d s90
def s365 : P := .a s91
def s366 : P := .b s91
def s367 : P := .c s91
def s368 : P := .d s91
def s369 : P := .a s92
def s370 : P := .b s92
def s371 : P := .c s92
def s372 : P := .d s92
def s373 : P := .a s93
def s374 : P := .b s93
def s375 : P := .c s93
def s376 : P := .d s93
def s377 : P := .a s94
def s378 : P := .b s94
def s379 : P := .c s94
def s380 : P := .d s94
def s381 : P := .a s95
def s382 : P := .b s95
def s383 : P := .c s95
def s384 : P := .d s95
def s385 : P := .a s96
def s386 : P := .b s96
def s387 : P := .c s96
def s388 : P := .d s96
def s389 : P := .a s97
def s390 : P := .b s97
def s391 : P := .c s97
def s392 : P := .d s97
def s393 : P := .a s98
def s394 : P := .b s98
def s395 : P := .c s98
def s396 : P := .d s98
def s397 : P := .a s99
def s398 : P := .b s99
def s399 : P := .c s99
def s400 : P := .d s99
def s401 : P := .a s100
def s402 : P := .b s100
def s403 : P := .c s100
def s404 : P := .d s100
def q0 : I := .i0
def q1 : I := .i1
def q2 : I := .i2
def q3 : I := .i3
def q4 : I := .i4
def q5 : I := .i5
def q6 : I := .i6
def q7 : I := .i7
def q8 : I := .nx q0
def q9 : I := .nx q1
def q10 : I := .nx q2
def q11 : I := .nx q3
def q12 : I := .nx q4
def q13 : I := .nx q5
def q14 : I := .nx q6
def q15 : I := .nx q7
def q16 : I := .nx q8
def q17 : I := .nx q9
def q18 : I := .nx q10
def q19 : I := .nx q11
def q20 : I := .nx q12
def q21 : I := .nx q13
def q22 : I := .nx q14
def q23 : I := .nx q15
def q24 : I := .nx q16
def q25 : I := .nx q17
def q26 : I := .nx q18
def q27 : I := .nx q19
abbrev K3 := En → Mem → P → Bool
noncomputable section
abbrev oA (v : VV) (k : Bool) : Bool := VV.onAny v k
abbrev _root_.Den.En.g (e : En) (q : I) (k : VV → Bool) : Bool := e.getK q k
abbrev _root_.Den.En.t (e : En) (q : I) (v : VV) (k : En → Bool) : Bool := e.setK q v k
abbrev Z (e : En) (q : I) (v : VV) (M : Mem) (n : P) (k : K3) : Bool := e.setK q v fun e => k e M n
abbrev Y (e : En) (q : I) (v : VV) (M : Mem) (n : P) (k : K3) : Bool := VV.onAny v (e.setK q v fun e => k e M n)
abbrev gL (g : VV) (M : Mem) (n : P) (x : VV) (k : Kv) : Bool := gdK g true .off M n (fun j => ldW M x 1 false fun _ v => j v M n) k
abbrev hL (g : VV) (M : Mem) (n : P) (x : VV) (k : Kv) : Bool := gdK g false .off M n (fun j => ldW M x 1 false fun _ v => j v M n) k
abbrev gM (g : VV) (M : Mem) (n : P) (x : VV) (k : Kv) : Bool := gdK g true .off M n (fun j => v_mv x fun v => j v M n) k
abbrev hM (g : VV) (M : Mem) (n : P) (x : VV) (k : Kv) : Bool := gdK g false .off M n (fun j => v_mv x fun v => j v M n) k
abbrev gP (g : VV) (M : Mem) (n : P) (f : (VV → Bool) → Bool) (k : Kv) : Bool := gdK g true .off M n (fun j => f fun v => j v M n) k
abbrev hP (g : VV) (M : Mem) (n : P) (f : (VV → Bool) → Bool) (k : Kv) : Bool := gdK g false .off M n (fun j => f fun v => j v M n) k
abbrev gN (g : VV) (M : Mem) (n : P) (f : Kv → Bool) (k : Kv) : Bool := gdK g true .no M n f k
abbrev hN (g : VV) (M : Mem) (n : P) (f : Kv → Bool) (k : Kv) : Bool := gdK g false .no M n f k
abbrev L (M : Mem) (x : VV) (k : VV → Bool) : Bool := ldW M x 1 false fun _ v => k v
abbrev bR (x : Bool) (b : Bool) : Bool := Bool.rec false x b
abbrev C (e : En) (q : I) (x y : Bool) : Bool := e.getK q fun v => v.onB fun c => Bool.rec x y c
abbrev X (k : K2) (j : K3) (i : Nat) : K2 := fun ex e M n => Ex.rec (j e M n) (k .r e M n) (fun id => Bool.rec (k (.x id) e M n) (j e M n) (Nat.beq id i)) ex
end
abbrev bt : VV := .bool true
abbrev bf : VV := .bool false
abbrev i0 : VV := .i (.ofNat 0)
abbrev i1 : VV := .i (.ofNat 1)
abbrev i2 : VV := .i (.ofNat 2)
abbrev i3 : VV := .i (.ofNat 3)
abbrev i4 : VV := .i (.ofNat 4)
abbrev i5 : VV := .i (.ofNat 5)
abbrev i6 : VV := .i (.ofNat 6)
abbrev i7 : VV := .i (.ofNat 7)
abbrev i8 : VV := .i (.ofNat 8)
abbrev i9 : VV := .i (.ofNat 9)
abbrev i10 : VV := .i (.ofNat 10)
abbrev i11 : VV := .i (.ofNat 11)
abbrev i12 : VV := .i (.ofNat 12)
abbrev i13 : VV := .i (.ofNat 13)
abbrev i14 : VV := .i (.ofNat 14)
abbrev i15 : VV := .i (.ofNat 15)
abbrev i16 : VV := .i (.ofNat 16)
abbrev i17 : VV := .i (.ofNat 17)
abbrev i19 : VV := .i (.ofNat 19)
abbrev i20 : VV := .i (.ofNat 20)
abbrev i21 : VV := .i (.ofNat 21)
abbrev i32 : VV := .i (.ofNat 32)
abbrev i39 : VV := .i (.ofNat 39)
abbrev i40 : VV := .i (.ofNat 40)
abbrev i50 : VV := .i (.ofNat 50)
abbrev i63 : VV := .i (.ofNat 63)
abbrev i64 : VV := .i (.ofNat 64)
abbrev i100 : VV := .i (.ofNat 100)
abbrev i255 : VV := .i (.ofNat 255)
abbrev i400 : VV := .i (.ofNat 400)
abbrev i512 : VV := .i (.ofNat 512)
abbrev i1000 : VV := .i (.ofNat 1000)
abbrev i4096 : VV := .i (.ofNat 4096)
abbrev i100000 : VV := .i (.ofNat 100000)
abbrev i1000000 : VV := .i (.ofNat 1000000)
abbrev i16777215 : VV := .i (.ofNat 16777215)
abbrev i16777216 : VV := .i (.ofNat 16777216)
abbrev i1099511627776 : VV := .i (.ofNat 1099511627776)
abbrev m0 : VV := .i (.negSucc 0)
abbrev m1 : VV := .i (.negSucc 1)
noncomputable section
def R6_0:RegF:=λa e M n k=>Y e q16 bf M n k
def R6_1:RegF:=λa e M n k=>v_bld [i0,i0,i0,(.str []),(.str [])] [(0,1,i11)] λb=>v_bld [i0,i0,i0,i0,i0,i0,i0,(.str []),(.str [])] [(0,1,i10),(4,5,b)] λc=>v_bld [i0,i0,i0,(.str []),(.str [])] [(0,1,i14),(1,1,i5)] λd=>v_bld [i0,i0,i0,i0,i0,i0,i0,(.str []),(.str [])] [(0,1,i10),(4,5,d)] λf=>v_bld [i0,i0,i0,(.str []),(.str [])] [(0,1,i2),(1,1,i1)] λg=>v_bld [i0,i0,i0,i0,i0,i0,i0,(.str []),(.str [])] [(0,1,i10),(4,5,g)] λh=>v_bld [i0,i0,i0,(.str []),(.str [])] [(0,1,i3),(2,1,i64)] λl=>v_bld [i0,i0,i0,i0,i0,i0,i0,(.str []),(.str [])] [(0,1,i10),(4,5,l)] λm=>v_bld [i0,i0,i0,i0,i0,i0,i0,(.str []),(.str [])] [(0,1,i5),(1,1,i3)] λo=>bslV 66 9 5 (rep 7 i0 ++ [(.str []),(.str [])] ++ rep 7 i0 ++ [(.str []),(.str [])] ++ rep 7 i0 ++ [(.str []),(.str [])] ++ rep 7 i0 ++ [(.str []),(.str [])] ++ rep 7 i0 ++ [(.str []),(.str [])]) [(0,9,c),(9,9,f),(18,9,h),(27,9,m),(36,9,o)] M n λp M n=>Y e q8 p M n k
def R6_2:RegF:=λa e M n k=>oA (.str []) (e.t q7 (.str []) λe=>k e M n)
def R6_3:RegF:=λa e M n k=>e.g q1 λb=>e.g q8 λc=>oA b (callV a s7 [b,i16] M n λd M n=>oA c (v_bld [i0,.nils] [(0,1,d),(1,1,c)] λf=>bslV 68 2 1 [i0,.nils] [(0,2,f)] M n λg M n=>v_bld [.nils,.nils,.nils,.nils,i0,i0] [(4,1,i8),(5,1,i100000),(1,1,g)] λh=>alV 28 [.nils,.nils,.nils,.nils,i0,i0] M n λl M n=>stV M l h 6 λM=>Z e q12 l M n k))
def R6_4:RegF:=λa e M n k=>e.g q12 λb=>ldW M b 6 true λ_ c=>callV a s17 [c,.nils,i400] M n λd M n=>alV 57 [.nils,.nils,.nils,i0] M n λf M n=>stV M f d 4 λM=>Z e q5 f M n k
def R6_5:RegF:=λa e M n k=>oA (.str []) (e.t q9 (.str []) λe=>k e M n)
def R6_6:RegF:=λa e M n k=>e.g q5 λb=>e.g q9 λc=>e.g q7 λd=>v_fa b 3 λf=>L M f λg=>v_eq g i0 λh=>oA h (gM h M n c λl M n=>gM h M n d λm M n=>gP h M n (v_seq false l m) λo M n=>v_pick h o bf λp=>oA p (gN p M n (λj=>callV a s16 [] M n λv M n=>j v M n) λq M n=>v_pick p q bf λr=>Y e q16 r M n k))
def R6_7:RegF:=λa e M n k=>Y e q4 i0 M n k
def R6_8:RegF:=λa e M n k=>e.g q4 λb=>e.g q5 λc=>oA b (v_fa c 2 λd=>L M d λf=>v_lenS f λg=>v_lt b g λh=>Z e q13 h M n k)
def R6_9:RegF:=λa e M n k=>e.g q5 λb=>e.g q4 λc=>v_fa b 2 λd=>L M d λf=>oA c (v_ixS f c 11 λg=>ldW M g 11 true λ_ h=>alV 72 [i0,i0,i0,i0,i0,i0,(.str []),(.str []),i0,i0,(.str [])] M n λl M n=>stV M l h 11 λM=>Z e q6 l M n k)
def R6_10:RegF:=λa e M n k=>e.g q6 λb=>v_fa b 8 λc=>v_fa c 0 λd=>L M d λf=>v_ne f i0 λg=>Z e q15 g M n k
def R6_11:RegF:=λa e M n k=>e.g q4 λb=>oA b (v_add b i1 λc=>Y e q4 c M n k)
def R6_12:RegF:=λa e M n k=>Y e q16 bf M n k
def R6_13:RegF:=λa e M n k=>e.g q6 λb=>v_fa b 1 λc=>L M c λd=>v_eq d i0 λf=>oA f (gP f M n (v_fa b 3) λg M n=>gP f M n (v_fa g 0) λh M n=>gL f M n h λl M n=>gP f M n (v_eq l i3) λm M n=>v_pick f m bf λo=>Z e q14 o M n k)
def R6_14:RegF:=λa e M n k=>e.g q9 λb=>e.g q6 λc=>oA b (v_fa c 8 λd=>v_fa d 2 λf=>L M f λg=>v_cat b g λh=>Y e q9 h M n k)
def R6_15:RegF:=λa e M n k=>Y e q3 i0 M n k
def R6_16:RegF:=λa e M n k=>e.g q3 λb=>e.g q0 λc=>oA b (oA c (v_lenS c λd=>v_lt b d λf=>oA f (gM f M n b λg M n=>gP f M n (v_lt g i5) λh M n=>v_pick f h bf λl=>Z e q10 l M n k)))
def R6_17:RegF:=λa e M n k=>e.g q0 λb=>e.g q3 λc=>oA b (oA c (v_ixS b c 1 λd=>L M d λf=>Y e q2 f M n k))
def R6_18:RegF:=λa e M n k=>e.g q7 λb=>e.g q2 λc=>oA b (oA c (v_cat b c λd=>Y e q7 d M n k))
def R6_19:RegF:=λa e M n k=>e.g q8 λb=>e.g q2 λc=>oA b (oA c (v_bld [i0,i0,i0,(.str []),(.str [])] [(0,1,i4),(1,1,i1),(3,1,c)] λd=>v_bld [i0,i0,i0,i0,i0,i0,i0,(.str []),(.str [])] [(0,1,i10),(4,5,d)] λf=>bslV 66 9 1 [i0,i0,i0,i0,i0,i0,i0,(.str []),(.str [])] [(0,9,f)] M n λg M n=>appV 66 9 88 b g M n λh M n=>Y e q8 h M n k))
def R6_20:RegF:=λa e M n k=>e.g q3 λb=>oA b (v_add b i1 λc=>Y e q3 c M n k)
def R6_21:RegF:=λa e M n k=>e.g q2 λb=>oA b (v_lenT b λc=>v_lt i64 c λd=>Z e q11 d M n k)
def R6_22:RegF:=λa e M n k=>e.g q2 λb=>oA b (v_ssl b none (some i64) λc=>Y e q2 c M n k)
def S6:List (P × I):=[(s0,q0),(s1,q1),(s8,q2),(s7,q3),(s12,q4),(s10,q5),(s13,q6),(s6,q7),(s5,q8),(s11,q9),(s31,q10),(s40,q11),(s9,q12),(s64,q13),(s80,q14),(s89,q15),(s4,q16)]
def G6:F2:=.mk (λa e M n k=>R6_0 a e M n λe M n=>R6_1 a e M n λe M n=>R6_2 a e M n λe M n=>(λ(j0:K3)=>R6_15 a e M n λe M n=>(λ(j5:K3)=>loopK (λa e M n k=>R6_16 a e M n λe M n=>C e q10 (k (.x 0) e M n) (R6_17 a e M n λe M n=>(λ(j6:K3)=>R6_21 a e M n λe M n=>(λ(j7:K3)=>C e q11 (j7 e M n) (R6_22 a e M n j7)) j6) λe M n=>R6_18 a e M n λe M n=>R6_19 a e M n λe M n=>R6_20 a e M n λe M n=>k .n e M n)) a e M n (X k j5 0)) j0) λe M n=>R6_3 a e M n λe M n=>R6_4 a e M n λe M n=>R6_5 a e M n λe M n=>(λ(j1:K3)=>R6_7 a e M n λe M n=>(λ(j2:K3)=>loopK (λa e M n k=>R6_8 a e M n λe M n=>C e q13 (k (.x 2) e M n) (R6_9 a e M n λe M n=>(λ(j3:K3)=>R6_13 a e M n λe M n=>(λ(j4:K3)=>C e q14 (j4 e M n) (R6_14 a e M n j4)) j3) λe M n=>R6_10 a e M n λe M n=>C e q15 (R6_11 a e M n λe M n=>k .n e M n) (R6_12 a e M n λe M n=>k .r e M n))) a e M n (X k j2 2)) j1) λe M n=>R6_6 a e M n λe M n=>k .r e M n) [.t q16] [q0,q1]
def G7:F2:=.spec (lowS)
def R10_0:RegF:=λa e M n k=>alV 36 [i0,bf] M n λb M n=>Z e q2 b M n k
def R10_1:RegF:=λa e M n k=>e.g q0 λb=>oA b (v_nqP false b λc=>oA c (hM c M n b λd M n=>hP c M n (v_nck d) λf M n=>hP c M n (v_fa f 1) λg M n=>hL c M n g λh M n=>hP c M n (v_eq h i16777215) λl M n=>v_pick c bt l λm=>Z e q6 m M n k))
def R10_2:RegF:=λa e M n k=>e.g q0 λb=>oA b (v_nck b λc=>v_fa c 21 λd=>stV M d bf 1 λM=>k e M n)
def R10_3:RegF:=λa e M n k=>e.g q0 λb=>oA b (callV a s23 [b] M n λc M n=>alV 36 [i0,bf] M n λd M n=>stV M d c 2 λM=>Z e q23 d M n k)
def R10_4:RegF:=λa e M n k=>e.g q0 λb=>(λW=>oA b (v_nck b λc=>v_fa c 9 λd=>L M d λf=>oA b (v_nck b λg=>v_fa g 1 λh=>L M h λl=>callV a s27 [f,l] M n λm M n=>bR (k e M n) (keptB W M [])))) M
def R10_5:RegF:=λa e M n k=>e.g q0 λb=>oA b (v_nck b λc=>v_fa c 1 λd=>L M d λf=>v_add f i1 λg=>v_nck b λh=>v_fa h 1 λl=>stV M l g 1 λM=>k e M n)
def R10_6:RegF:=λa e M n k=>e.g q23 λb=>e.g q2 λc=>ldW M b 2 true λ_ d=>stV M c d 2 λM=>k e M n
def R10_7:RegF:=λa e M n k=>e.g q0 λb=>oA b (v_nck b λc=>v_fa c 21 λd=>L M d λf=>oA f (hM f M n b λg M n=>hP f M n (v_nck g) λh M n=>hP f M n (v_fa h 2) λl M n=>hL f M n l λm M n=>hN f M n (λj=>callV a s24 [m,(.fn s25 [] [])] M n λv M n=>j v M n) λo M n=>hP f M n (v_not o) λp M n=>v_pick f bt p λq=>Z e q22 q M n k))
def R10_8:RegF:=λa e M n k=>e.g q0 λb=>(λW=>oA b (v_nck b λc=>v_fa c 9 λd=>L M d λf=>oA b (v_nck b λg=>v_fa g 1 λh=>L M h λl=>callV a s26 [f,l] M n λm M n=>bR (k e M n) (keptB W M [])))) M
def R10_9:RegF:=λa e M n k=>e.g q1 λb=>oA b (v_lenS b λc=>oA i0 (e.t q20 b λe=>e.t q18 c λe=>Z e q5 i0 M n k))
def R10_10:RegF:=λa e M n k=>e.g q5 λb=>e.g q18 λc=>v_lt b c λd=>Z e q19 d M n k
def R10_11:RegF:=λa e M n k=>e.g q20 λb=>e.g q5 λc=>v_ixS b c 3 λd=>ldW M d 3 true λ_ f=>alV 41 [i0,i0,i0] M n λg M n=>stV M g f 3 λM=>Z e q21 g M n k
def R10_12:RegF:=λa e M n k=>e.g q0 λb=>e.g q21 λc=>oA b (ldW M c 3 true λ_ d=>callV a s22 [b,d] M n λf M n=>k e M n)
def R10_13:RegF:=λa e M n k=>e.g q5 λb=>v_add b i1 λc=>Y e q5 c M n k
def R10_14:RegF:=λa e M n k=>e.g q0 λb=>oA b (v_nck b λc=>v_fa c 8 λd=>L M d λf=>v_lenS f λg=>oA i0 (e.t q16 f λe=>e.t q14 g λe=>Z e q4 i0 M n k))
def R10_15:RegF:=λa e M n k=>e.g q4 λb=>e.g q14 λc=>v_lt b c λd=>Z e q15 d M n k
def R10_16:RegF:=λa e M n k=>e.g q16 λb=>e.g q4 λc=>v_ixS b c 1 λd=>L M d λf=>Y e q17 f M n k
def R10_17:RegF:=λa e M n k=>e.g q17 λb=>e.g q0 λc=>oA b (oA c (v_nck c λd=>v_fa d 1 λf=>L M f λg=>callV a s21 [b,g] M n λh M n=>k e M n))
def R10_18:RegF:=λa e M n k=>e.g q4 λb=>v_add b i1 λc=>Y e q4 c M n k
def R10_19:RegF:=λa e M n k=>e.g q0 λb=>oA b (v_nck b λc=>v_fa c 1 λd=>L M d λf=>v_lt i0 f λg=>Z e q7 g M n k)
def R10_20:RegF:=λa e M n k=>e.g q0 λb=>oA b (v_nck b λc=>v_fa c 7 λd=>L M d λf=>callV a s19 [f] M n λg M n=>oA g (v_ext g 0 λh=>v_ext g 1 λl=>oA h (oA l (Z e q8 h M n k))))
def R10_21:RegF:=λa e M n k=>e.g q0 λb=>oA b (v_mkf s20 [b] [] λc=>Y e q12 c M n k)
def R10_22:RegF:=λa e M n k=>e.g q8 λb=>oA b (v_lenS b λc=>oA i0 (e.t q11 b λe=>e.t q9 c λe=>Z e q3 i0 M n k))
def R10_23:RegF:=λa e M n k=>e.g q3 λb=>e.g q9 λc=>v_lt b c λd=>Z e q10 d M n k
def R10_24:RegF:=λa e M n k=>e.g q11 λb=>e.g q3 λc=>v_ixS b c 1 λd=>L M d λf=>Y e q13 f M n k
def R10_25:RegF:=λa e M n k=>e.g q12 λb=>e.g q13 λc=>oA b (oA c (cvV a b [c] M n λd M n=>k e M n))
def R10_26:RegF:=λa e M n k=>e.g q3 λb=>v_add b i1 λc=>Y e q3 c M n k
def R10_27:RegF:=λa e M n k=>e.g q2 λb=>v_bld [i0,bf] [(0,1,m0)] λc=>stV M b c 2 λM=>k e M n
def S10:List (P × I):=[(s0,q0),(s1,q1),(s4,q2),(s45,q3),(s58,q4),(s71,q5),(s23,q6),(s32,q7),(s5,q8),(s44,q9),(s46,q10),(s43,q11),(s7,q12),(s9,q13),(s57,q14),(s59,q15),(s56,q16),(s11,q17),(s70,q18),(s72,q19),(s69,q20),(s13,q21),(s92,q22),(s14,q23)]
def G10:F2:=.mk (λa e M n k=>R10_0 a e M n λe M n=>R10_1 a e M n λe M n=>C e q6 (R10_2 a e M n λe M n=>(λ(j0:K3)=>R10_19 a e M n λe M n=>(λ(j7:K3)=>C e q7 (j7 e M n) (R10_20 a e M n λe M n=>R10_21 a e M n λe M n=>R10_22 a e M n λe M n=>(λ(j8:K3)=>loopK (λa e M n k=>R10_23 a e M n λe M n=>C e q10 (k (.x 0) e M n) (R10_24 a e M n λe M n=>R10_25 a e M n λe M n=>R10_26 a e M n λe M n=>k .n e M n)) a e M n (X k j8 0)) j7)) j0) λe M n=>(λ(j1:K3)=>R10_14 a e M n λe M n=>(λ(j6:K3)=>loopK (λa e M n k=>R10_15 a e M n λe M n=>C e q15 (k (.x 2) e M n) (R10_16 a e M n λe M n=>R10_17 a e M n λe M n=>R10_18 a e M n λe M n=>k .n e M n)) a e M n (X k j6 2)) j1) λe M n=>(λ(j2:K3)=>R10_9 a e M n λe M n=>(λ(j5:K3)=>loopK (λa e M n k=>R10_10 a e M n λe M n=>C e q19 (k (.x 4) e M n) (R10_11 a e M n λe M n=>R10_12 a e M n λe M n=>R10_13 a e M n λe M n=>k .n e M n)) a e M n (X k j5 4)) j2) λe M n=>R10_3 a e M n λe M n=>(λ(j3:K3)=>R10_7 a e M n λe M n=>(λ(j4:K3)=>C e q22 (j4 e M n) (R10_8 a e M n j4)) j3) λe M n=>R10_4 a e M n λe M n=>R10_5 a e M n λe M n=>R10_6 a e M n λe M n=>k .r e M n) (R10_27 a e M n λe M n=>k .r e M n)) [.c q2 2 true] [q0,q1]
def R14_0:RegF:=λa e M n k=>alV 47 [i0,.nils,.nils,.nils,.nils] M n λb M n=>Z e q1 b M n k
def R14_1:RegF:=λa e M n k=>e.g q0 λb=>oA b (v_nqP false b λc=>Z e q6 c M n k)
def R14_2:RegF:=λa e M n k=>e.g q0 λb=>(λW=>oA b (v_nck b λc=>v_fa c 1 λd=>ldV M d 1 false λf g=>oA b (v_nck b λh=>v_fa h 5 λl=>L M l λm=>callV a s28 [m] M n λo M n=>oA b (v_nck b λp=>v_fa p 9 λq=>ldV M q 1 false λr s=>callV a s29 [s] M n λt M n=>v_bld [i0,.nils,.nils,.nils,.nils] [(0,1,g),(2,1,o),(4,1,t)] λu=>alV 47 [i0,.nils,.nils,.nils,.nils] M n λw M n=>bR (stV M w u 5 λM=>Z e q3 w M n k) (keptB W M (r :: (f :: []))))))) M
def R14_3:RegF:=λa e M n k=>e.g q3 λb=>e.g q1 λc=>ldW M b 5 true λ_ d=>stV M c d 5 λM=>k e M n
def R14_4:RegF:=λa e M n k=>e.g q0 λb=>oA b (v_nck b λc=>v_fa c 8 λd=>L M d λf=>v_lenS f λg=>oA i0 (e.t q13 f λe=>e.t q11 g λe=>Z e q4 i0 M n k))
def R14_5:RegF:=λa e M n k=>e.g q4 λb=>e.g q11 λc=>v_lt b c λd=>Z e q12 d M n k
def R14_6:RegF:=λa e M n k=>e.g q13 λb=>e.g q4 λc=>v_ixS b c 1 λd=>L M d λf=>Y e q14 f M n k
def R14_7:RegF:=λa e M n k=>e.g q14 λb=>oA b (callV a s31 [b] M n λc M n=>oA c (v_ext c 0 λd=>v_ext c 1 λf=>oA d (Y e q15 f M n k)))
def R14_8:RegF:=λa e M n k=>e.g q3 λb=>e.g q15 λc=>v_fa b 3 λd=>L M d λf=>oA c (bslV 4 1 1 [bf] [(0,1,c)] M n λg M n=>appV 4 1 1 f g M n λh M n=>v_fa b 3 λl=>stV M l h 1 λM=>k e M n)
def R14_10:RegF:=λa e M n k=>e.g q0 λb=>oA b (v_nck b λc=>v_fa c 2 λd=>L M d λf=>v_lenS f λg=>oA i0 (e.t q9 f λe=>e.t q7 g λe=>Z e q2 i0 M n k))
def R14_11:RegF:=λa e M n k=>e.g q2 λb=>e.g q7 λc=>v_lt b c λd=>Z e q8 d M n k
def R14_12:RegF:=λa e M n k=>e.g q2 λb=>e.g q9 λc=>oA b (v_ixS c b 21 λd=>ldW M d 21 true λ_ f=>alV 102 (rep 9 i0 ++ [bf,i0,i0,i0,(.str []),bf,i0,i0,i0,i0,i0,.nils]) M n λg M n=>oA b (stV M g f 21 λM=>e.t q5 g λe=>Z e q10 b M n k))
def R14_13:RegF:=λa e M n k=>e.g q0 λb=>e.g q10 λc=>e.g q5 λd=>oA b (v_nck b λf=>v_fa f 5 λg=>L M g λh=>oA c (callV a s30 [h,c] M n λl M n=>v_fa d 20 λm=>stV M m l 1 λM=>k e M n))
def R14_14:RegF:=λa e M n k=>e.g q3 λb=>e.g q5 λc=>v_fa b 1 λd=>L M d λf=>ldW M c 21 true λ_ g=>bslV 102 21 1 (rep 9 i0 ++ [bf,i0,i0,i0,(.str []),bf,i0,i0,i0,i0,i0,.nils]) [(0,21,g)] M n λh M n=>appV 102 21 192 f h M n λl M n=>v_fa b 1 λm=>stV M m l 1 λM=>k e M n
def R14_15:RegF:=λa e M n k=>e.g q2 λb=>v_add b i1 λc=>Y e q2 c M n k
def R14_16:RegF:=λa e M n k=>e.g q1 λb=>v_bld [i0,.nils,.nils,.nils,.nils] [] λc=>stV M b c 5 λM=>k e M n
def S14:List (P × I):=[(s0,q0),(s2,q1),(s33,q2),(s3,q3),(s57,q4),(s5,q5),(s11,q6),(s32,q7),(s34,q8),(s31,q9),(s4,q10),(s56,q11),(s58,q12),(s55,q13),(s7,q14),(s9,q15)]
def G14:F2:=.mk (λa e M n k=>R14_0 a e M n λe M n=>R14_1 a e M n λe M n=>C e q6 (R14_2 a e M n λe M n=>(λ(j0:K3)=>R14_10 a e M n λe M n=>(λ(j3:K3)=>loopK (λa e M n k=>R14_11 a e M n λe M n=>C e q8 (k (.x 0) e M n) (R14_12 a e M n λe M n=>R14_13 a e M n λe M n=>R14_14 a e M n λe M n=>R14_15 a e M n λe M n=>k .n e M n)) a e M n (X k j3 0)) j0) λe M n=>(λ(j1:K3)=>R14_4 a e M n λe M n=>(λ(j2:K3)=>loopK (λa e M n k=>R14_5 a e M n λe M n=>C e q12 (k (.x 2) e M n) (R14_6 a e M n λe M n=>R14_7 a e M n λe M n=>R14_8 a e M n λe M n=>R10_18 a e M n λe M n=>k .n e M n)) a e M n (X k j2 2)) j1) λe M n=>R14_3 a e M n λe M n=>k .r e M n) (R14_16 a e M n λe M n=>k .r e M n)) [.c q1 5 true] [q0]
def R15_0:RegF:=λa e M n k=>Y e q2 .nils M n k
def R15_1:RegF:=λa e M n k=>e.g q0 λb=>oA b (v_nqP false b λc=>Z e q1 c M n k)
def R15_2:RegF:=λa e M n k=>e.g q0 λb=>oA b (v_nck b λc=>v_fa c 12 λd=>L M d λf=>callV a s32 [f] M n λg M n=>Y e q2 g M n k)
def S15:List (P × I):=[(s0,q0),(s4,q1),(s2,q2)]
def G15:F2:=.mk (λa e M n k=>R15_0 a e M n λe M n=>R15_1 a e M n λe M n=>C e q1 (R15_2 a e M n λe M n=>k .r e M n) (R15_0 a e M n λe M n=>k .r e M n)) [.t q2] [q0]
def R16_0:RegF:=λa e M n k=>Y e q4 bf M n k
def R16_1:RegF:=λa e M n k=>callV a s34 [] M n λb M n=>v_bld [i0,i0,i0] [(0,1,i2),(1,1,m0)] λc=>bslV 41 3 1 [i0,i0,i0] [(0,3,c)] M n λd M n=>callV a s33 [b,d,i8] M n λf M n=>oA f (v_ext f 0 λg=>v_ext f 1 λh=>v_ext f 2 λl=>v_ext f 3 λm=>oA g (oA h (oA l (oA m (e.t q2 g λe=>e.t q0 h λe=>Z e q1 m M n k)))))
def R16_2:RegF:=λa e M n k=>e.g q1 λb=>e.g q2 λc=>e.g q0 λd=>oA b (v_ne b i0 λf=>oA f (hM f M n c λg M n=>hP f M n (v_bld [i0,bf] [(0,1,i1)]) λh M n=>hP f M n (v_bld [i0,bf] [(0,1,i1)]) λl M n=>hP f M n (v_bld [i0,bf] [(0,1,i1)]) λm M n=>hP f M n (v_bld [i0,bf] [(0,1,i1)]) λo M n=>hP f M n (v_bld [i0,bf] [(0,1,i1)]) λp M n=>hP f M n (v_bld [i0,bf] []) λq M n=>hP f M n (v_bld [i0,bf] []) λr M n=>hP f M n (v_bld [i0,bf] []) λs M n=>hN f M n (λj=>bslV 36 2 8 ([i0,bf,i0,bf,i0,bf,i0,bf,i0,bf,i0,bf,i0,bf,i0,bf]) [(0,2,h),(2,2,l),(4,2,m),(6,2,o),(8,2,p),(10,2,q),(12,2,r),(14,2,s)] M n λv M n=>j v M n) λt M n=>hN f M n (λj=>callV a s35 [g,t] M n λv M n=>j v M n) λu M n=>hP f M n (v_not u) λw M n=>v_pick f bt w λx=>oA x (hM x M n d λy M n=>hP x M n (v_lenS y) λz M n=>hP x M n (v_ne z i1) λA M n=>v_pick x bt A λB=>Z e q3 B M n k)))
def R16_3:RegF:=λa e M n k=>e.g q0 λb=>oA b (v_ixS b i0 6 λc=>ldW M c 6 true λ_ d=>callV a s36 [d] M n λf M n=>v_not f λg=>oA g (gM g M n b λh M n=>gP g M n (v_ixS h i0 6) λl M n=>gP g M n (v_fa l 3) λm M n=>gL g M n m λo M n=>gP g M n (v_eq o i8) λp M n=>v_pick g p bf λq=>oA q (gP q M n (v_bld [i0,.nils,.nils,.nils,.nils] []) λr M n=>gN q M n (λj=>callV a s37 [r] M n λv M n=>j v M n) λs M n=>v_pick q s bf λt=>Y e q4 t M n k)))
def S16:List (P × I):=[(s2,q0),(s4,q1),(s1,q2),(s34,q3),(s0,q4)]
def G16:F2:=.mk (λa e M n k=>R16_0 a e M n λe M n=>R16_1 a e M n λe M n=>R16_2 a e M n λe M n=>C e q3 (R16_3 a e M n λe M n=>k .r e M n) (R16_0 a e M n λe M n=>k .r e M n)) [.t q4] []
def R17_0:RegF:=λa e M n k=>e.g q0 λb=>bxV 28 b M n λc M n=>alV 57 [.nils,.nils,.nils,i0] M n λd M n=>e.t q4 c λe=>Z e q3 d M n k
def R17_1:RegF:=λa e M n k=>e.g q4 λb=>e.g q1 λc=>e.g q2 λd=>ldW M b 6 true λ_ f=>oA c (oA d (callV a s33 [f,c,d] M n λg M n=>oA g (v_ext g 0 λh=>v_ext g 1 λl=>v_ext g 2 λm=>v_ext g 3 λo=>oA h (oA l (oA m (oA o (e.t q5 h λe=>e.t q6 l λe=>e.t q7 m λe=>Z e q8 o M n k)))))))
def R17_2:RegF:=λa e M n k=>e.g q5 λb=>e.g q6 λc=>e.g q7 λd=>e.g q8 λf=>e.g q3 λg=>oA b (oA c (oA d (oA f (v_bld [.nils,.nils,.nils,i0] [(0,1,b),(1,1,c),(2,1,d),(3,1,f)] λh=>stV M g h 4 λM=>k e M n))))
def S17:List (P × I):=[(s0,q0),(s1,q1),(s2,q2),(s6,q3),(s3,q4),(s7,q5),(s8,q6),(s9,q7),(s10,q8)]
def G17:F2:=.mk (λa e M n k=>R17_0 a e M n λe M n=>R17_1 a e M n λe M n=>R17_2 a e M n λe M n=>k .r e M n) [.c q3 4 true] [q0,q1,q2]
def R18_0:RegF:=λa e M n k=>e.g q0 λb=>bxV 28 b M n λc M n=>oA (.nil) (oA i0 (e.t q2 c λe=>e.t q26 (.nil) λe=>Z e q27 i0 M n k))
def R18_1:RegF:=λa e M n k=>e.g q2 λb=>ldW M b 6 true λ_ c=>callV a s38 [c] M n λd M n=>v_not d λf=>Z e q8 f M n k
def R18_2:RegF:=λa e M n k=>v_bld ([.nils,i0,.nils,.nils,.nil,.nil,.nil,.nil,.nils,.nil,.nil,.nils,.nils,i0,.nils,.nils,.nils,.nils,i0,i0,i0,bf] ++ rep 8 i0) [] λb=>bxV 89 b M n λc M n=>Y e q1 c M n k
def R18_3:RegF:=λa e M n k=>e.g q1 λb=>e.g q2 λc=>oA b (v_fa c 2 λd=>L M d λf=>callV a s44 [f] M n λg M n=>oA g (v_ext g 0 λh=>v_ext g 1 λl=>v_nck b λm=>v_fa m 4 λo=>stV M o h 1 λM=>k e M n))
def R18_4:RegF:=λa e M n k=>e.g q1 λb=>oA b (oA b (v_nck b λc=>v_fa c 4 λd=>L M d λf=>callV a s45 [f] M n λg M n=>v_nck b λh=>v_fa h 5 λl=>stV M l g 1 λM=>k e M n))
def R18_5:RegF:=λa e M n k=>e.g q1 λb=>oA b (callV a s46 [i4] M n λc M n=>oA c (v_ext c 0 λd=>v_ext c 1 λf=>v_nck b λg=>v_fa g 6 λh=>stV M h d 1 λM=>k e M n))
def R18_6:RegF:=λa e M n k=>e.g q1 λb=>oA b (callV a s47 [i0] M n λc M n=>oA c (v_ext c 0 λd=>v_ext c 1 λf=>v_nck b λg=>v_fa g 7 λh=>stV M h d 1 λM=>k e M n))
def R18_7:RegF:=λa e M n k=>e.g q1 λb=>e.g q2 λc=>oA b (v_fa c 5 λd=>L M d λf=>callV a s49 [f] M n λg M n=>oA g (v_ext g 0 λh=>v_ext g 1 λl=>v_nck b λm=>v_fa m 9 λo=>stV M o h 1 λM=>k e M n))
def R18_8:RegF:=λa e M n k=>e.g q1 λb=>e.g q2 λc=>oA b (v_fa c 4 λd=>L M d λf=>callV a s50 [f] M n λg M n=>oA g (v_ext g 0 λh=>v_ext g 1 λl=>v_nck b λm=>v_fa m 10 λo=>stV M o h 1 λM=>k e M n))
def R18_9:RegF:=λa e M n k=>e.g q1 λb=>oA b (oA b (oA i0 (e.t q26 b λe=>Z e q27 i0 M n k)))
def R18_10:RegF:=λa e M n k=>e.g q1 λb=>oA b (v_nck b λc=>v_fa c 2 λd=>L M d λf=>v_lenS f λg=>oA i0 (e.t q23 g λe=>Z e q7 i0 M n k))
def R18_11:RegF:=λa e M n k=>e.g q7 λb=>e.g q23 λc=>v_lt b c λd=>Z e q24 d M n k
def R18_12:RegF:=λa e M n k=>e.g q7 λb=>oA b (Y e q25 b M n k)
def R18_13:RegF:=λa e M n k=>e.g q1 λb=>e.g q25 λc=>oA b (v_nck b λd=>v_fa d 10 λf=>L M f λg=>oA c (callV a s51 [g,c] M n λh M n=>k e M n))
def R18_14:RegF:=λa e M n k=>e.g q7 λb=>v_add b i1 λc=>Y e q7 c M n k
def R18_15:RegF:=λa e M n k=>e.g q2 λb=>v_fa b 3 λc=>L M c λd=>v_lenS d λf=>oA i0 (e.t q20 d λe=>e.t q18 f λe=>Z e q6 i0 M n k)
def R18_16:RegF:=λa e M n k=>e.g q6 λb=>e.g q18 λc=>v_lt b c λd=>Z e q19 d M n k
def R18_17:RegF:=λa e M n k=>e.g q20 λb=>e.g q6 λc=>v_ixS b c 1 λd=>L M d λf=>Y e q21 f M n k
def R18_18:RegF:=λa e M n k=>e.g q21 λb=>oA b (callV a s48 [b] M n λc M n=>oA c (v_ext c 0 λd=>v_ext c 1 λf=>oA d (oA f (Z e q22 d M n k))))
def R18_19:RegF:=λa e M n k=>e.g q1 λb=>e.g q22 λc=>oA b (oA b (v_nck b λd=>v_fa d 8 λf=>L M f λg=>oA c (bslV 93 1 1 [.nil] [(0,1,c)] M n λh M n=>appV 93 1 8 g h M n λl M n=>v_nck b λm=>v_fa m 8 λo=>stV M o l 1 λM=>k e M n)))
def R18_20:RegF:=λa e M n k=>e.g q6 λb=>v_add b i1 λc=>Y e q6 c M n k
def R18_21:RegF:=λa e M n k=>e.g q2 λb=>v_fa b 1 λc=>L M c λd=>v_lenS d λf=>oA i0 (e.t q15 d λe=>e.t q13 f λe=>Z e q5 i0 M n k)
def R18_22:RegF:=λa e M n k=>e.g q5 λb=>e.g q13 λc=>v_lt b c λd=>Z e q14 d M n k
def R18_23:RegF:=λa e M n k=>e.g q5 λb=>e.g q15 λc=>oA b (v_ixS c b 2 λd=>ldW M d 2 true λ_ f=>alV 68 [i0,.nils] M n λg M n=>oA b (stV M g f 2 λM=>e.t q17 g λe=>Z e q16 b M n k))
def R18_24:RegF:=λa e M n k=>e.g q1 λb=>e.g q2 λc=>e.g q16 λd=>e.g q17 λf=>(λW=>oA b (v_fa c 0 λg=>L M g λh=>v_lenS h λl=>oA d (v_add l d λm=>ldW M f 2 true λ_ o=>callV a s43 [m,o] M n λp M n=>v_fa f 1 λq=>ldV M q 1 false λr s=>callV a s42 [s] M n λt M n=>callV a s40 [b,p,t] M n λu M n=>bR (k e M n) (keptB W M (r :: []))))) M
def R18_26:RegF:=λa e M n k=>e.g q2 λb=>v_fa b 0 λc=>L M c λd=>v_lenS d λf=>oA i0 (e.t q11 d λe=>e.t q9 f λe=>Z e q3 i0 M n k)
def R18_28:RegF:=λa e M n k=>e.g q3 λb=>e.g q11 λc=>oA b (v_ixS c b 8 λd=>ldW M d 8 true λ_ f=>alV 32 [i0,i0,i0,i0,i0,i0,.nils,.nils] M n λg M n=>oA b (stV M g f 8 λM=>e.t q4 g λe=>Z e q12 b M n k))
def R18_29:RegF:=λa e M n k=>e.g q4 λb=>v_fa b 6 λc=>L M c λd=>callV a s39 [d] M n λf M n=>v_fa b 6 λg=>stV M g f 1 λM=>k e M n
def R18_30:RegF:=λa e M n k=>e.g q1 λb=>e.g q4 λc=>(λW=>oA b (oA b (v_nck b λd=>v_fa d 0 λf=>L M f λg=>ldW M c 8 true λ_ h=>bslV 32 8 1 [i0,i0,i0,i0,i0,i0,.nils,.nils] [(0,8,h)] M n λl M n=>appV 32 8 96 g l M n λm M n=>v_nck b λo=>v_fa o 0 λp=>bR (stV M p m 1 λM=>k e M n) (keptB W M [])))) M
def R18_31:RegF:=λa e M n k=>e.g q1 λb=>e.g q12 λc=>e.g q4 λd=>(λW=>oA b (oA c (ldW M d 8 true λ_ f=>callV a s41 [c,f] M n λg M n=>v_fa d 7 λh=>ldV M h 1 false λl m=>callV a s42 [m] M n λo M n=>callV a s40 [b,g,o] M n λp M n=>bR (k e M n) (keptB W M (l :: []))))) M
def R18_33:RegF:=λa e M n k=>oA (.nil) (oA i2 (e.t q26 (.nil) λe=>Z e q27 i2 M n k))
def S18:List (P × I):=[(s0,q0),(s4,q1),(s1,q2),(s22,q3),(s6,q4),(s53,q5),(s105,q6),(s148,q7),(s16,q8),(s21,q9),(s23,q10),(s20,q11),(s5,q12),(s52,q13),(s54,q14),(s51,q15),(s7,q16),(s8,q17),(s104,q18),(s106,q19),(s103,q20),(s10,q21),(s11,q22),(s147,q23),(s149,q24),(s13,q25),(s2,q26),(s3,q27)]
def G18:F2:=.mk (λa e M n k=>R18_0 a e M n λe M n=>R18_1 a e M n λe M n=>C e q8 (R18_2 a e M n λe M n=>(λ(j0:K3)=>R18_26 a e M n λe M n=>(λ(j7:K3)=>loopK (λa e M n k=>R10_23 a e M n λe M n=>C e q10 (k (.x 0) e M n) (R18_28 a e M n λe M n=>R18_29 a e M n λe M n=>R18_30 a e M n λe M n=>R18_31 a e M n λe M n=>R10_26 a e M n λe M n=>k .n e M n)) a e M n (X k j7 0)) j0) λe M n=>(λ(j1:K3)=>R18_21 a e M n λe M n=>(λ(j6:K3)=>loopK (λa e M n k=>R18_22 a e M n λe M n=>C e q14 (k (.x 2) e M n) (R18_23 a e M n λe M n=>R18_24 a e M n λe M n=>R10_13 a e M n λe M n=>k .n e M n)) a e M n (X k j6 2)) j1) λe M n=>R18_3 a e M n λe M n=>R18_4 a e M n λe M n=>R18_5 a e M n λe M n=>R18_6 a e M n λe M n=>(λ(j2:K3)=>R18_15 a e M n λe M n=>(λ(j5:K3)=>loopK (λa e M n k=>R18_16 a e M n λe M n=>C e q19 (k (.x 4) e M n) (R18_17 a e M n λe M n=>R18_18 a e M n λe M n=>R18_19 a e M n λe M n=>R18_20 a e M n λe M n=>k .n e M n)) a e M n (X k j5 4)) j2) λe M n=>R18_7 a e M n λe M n=>R18_8 a e M n λe M n=>(λ(j3:K3)=>R18_10 a e M n λe M n=>(λ(j4:K3)=>loopK (λa e M n k=>R18_11 a e M n λe M n=>C e q24 (k (.x 6) e M n) (R18_12 a e M n λe M n=>R18_13 a e M n λe M n=>R18_14 a e M n λe M n=>k .n e M n)) a e M n (X k j4 6)) j3) λe M n=>R18_9 a e M n λe M n=>k .r e M n) (R18_33 a e M n λe M n=>k .r e M n)) [.t q26,.t q27] [q0]
def R19_0:RegF:=λa e M n k=>oA .nils (oA i0 (e.t q17 .nils λe=>Z e q18 i0 M n k))
def R19_1:RegF:=λa e M n k=>e.g q0 λb=>oA b (v_nqP false b λc=>oA c (hM c M n b λd M n=>hP c M n (v_nck d) λf M n=>hP c M n (v_fa f 0) λg M n=>hL c M n g λh M n=>hP c M n (v_eq h i16777215) λl M n=>v_pick c bt l λm=>Z e q7 m M n k))
def R19_2:RegF:=λa e M n k=>e.g q0 λb=>oA b (v_nck b λc=>v_fa c 0 λd=>L M d λf=>v_add f i1 λg=>v_nck b λh=>v_fa h 0 λl=>stV M l g 1 λM=>k e M n)
def R19_3:RegF:=λa e M n k=>Y e q4 .nils M n k
def R19_4:RegF:=λa e M n k=>Y e q6 i0 M n k
def R19_5:RegF:=λa e M n k=>e.g q4 λb=>oA b (callV a s56 [b] M n λc M n=>k e M n)
def R19_6:RegF:=λa e M n k=>e.g q4 λb=>e.g q6 λc=>oA b (oA c (oA b (oA c (e.t q17 b λe=>Z e q18 c M n k))))
def R19_7:RegF:=λa e M n k=>Y e q1 i3 M n k
def R19_8:RegF:=λa e M n k=>e.g q1 λb=>oA b (v_le i0 b λc=>Z e q8 c M n k)
def R19_9:RegF:=λa e M n k=>e.g q1 λb=>oA b (v_sub b i1 λc=>Y e q1 c M n k)
def R19_10:RegF:=λa e M n k=>e.g q0 λb=>e.g q1 λc=>oA b (v_nck b λd=>v_fa d 0 λf=>L M f λg=>oA c (v_mul i6 c λh=>v_conv .u64 h λl=>v_kop .shl i1 l λm=>v_sub m i1 λo=>v_kop .and g o λp=>v_ne p i0 λq=>Z e q9 q M n k))
def R19_11:RegF:=λa e M n k=>e.g q0 λb=>e.g q1 λc=>(λW=>oA b (oA c (oA b (v_nck b λd=>v_fa d 0 λf=>L M f λg=>oA c (callV a s52 [g,c] M n λh M n=>v_nck b λl=>v_fa l 1 λm=>v_ixA m c 4 64 λo=>v_ixA o h 64 1 λp=>oA p (bR (Z e q5 p M n k) (keptB W M []))))))) M
def R19_12:RegF:=λa e M n k=>e.g q5 λb=>oA b (v_nck b λc=>L M c λd=>Y e q10 d M n k)
def R19_13:RegF:=λa e M n k=>e.g q5 λb=>oA b (v_nck b λc=>stV M c .nils 1 λM=>k e M n)
def R19_14:RegF:=λa e M n k=>e.g q10 λb=>oA b (v_lenS b λc=>oA i0 (e.t q13 b λe=>e.t q11 c λe=>Z e q3 i0 M n k))
def R19_15:RegF:=λa e M n k=>e.g q3 λb=>e.g q11 λc=>v_lt b c λd=>Z e q12 d M n k
def R19_17:RegF:=λa e M n k=>e.g q13 λb=>e.g q3 λc=>v_ixS b c 2 λd=>ldW M d 2 true λ_ f=>alV 143 [i0,i0] M n λg M n=>stV M g f 2 λM=>Z e q2 g M n k
def R19_18:RegF:=λa e M n k=>e.g q2 λb=>e.g q0 λc=>(λW=>v_fa b 1 λd=>L M d λf=>oA c (v_nck c λg=>v_fa g 0 λh=>L M h λl=>v_eq f l λm=>oA m (bR (Z e q14 m M n k) (keptB W M [])))) M
def R19_19:RegF:=λa e M n k=>e.g q0 λb=>e.g q2 λc=>oA b (ldW M c 2 true λ_ d=>callV a s54 [b,d,(.fn s55 [] [])] M n λf M n=>k e M n)
def R19_20:RegF:=λa e M n k=>e.g q0 λb=>e.g q2 λc=>oA b (v_fa c 1 λd=>L M d λf=>callV a s53 [b,f] M n λg M n=>oA g (v_ext g 0 λh=>v_ext g 1 λl=>oA h (oA l (Z e q15 h M n k))))
def R19_21:RegF:=λa e M n k=>e.g q15 λb=>e.g q1 λc=>oA b (oA c (v_ne b c λd=>Z e q16 d M n k))
def R19_22:RegF:=λa e M n k=>e.g q6 λb=>oA b (v_add b i1 λc=>Y e q6 c M n k)
def R19_23:RegF:=λa e M n k=>e.g q4 λb=>e.g q2 λc=>oA b (v_fa c 0 λd=>L M d λf=>bslV 3 1 1 [i0] [(0,1,f)] M n λg M n=>appV 3 1 8 b g M n λh M n=>Y e q4 h M n k)
def R19_24:RegF:=λa e M n k=>e.g q0 λb=>oA b (v_nck b λc=>v_fa c 257 λd=>L M d λf=>v_sub f i1 λg=>v_nck b λh=>v_fa h 257 λl=>stV M l g 1 λM=>k e M n)
def S19:List (P × I):=[(s0,q0),(s6,q1),(s10,q2),(s63,q3),(s4,q4),(s7,q5),(s5,q6),(s21,q7),(s30,q8),(s43,q9),(s8,q10),(s62,q11),(s64,q12),(s61,q13),(s82,q14),(s11,q15),(s76,q16),(s2,q17),(s3,q18)]
def G19:F2:=.mk (λa e M n k=>R19_0 a e M n λe M n=>R19_1 a e M n λe M n=>C e q7 (R19_2 a e M n λe M n=>R19_3 a e M n λe M n=>R19_4 a e M n λe M n=>(λ(j0:K3)=>R19_7 a e M n λe M n=>(λ(j1:K3)=>loopK (λa e M n k=>R19_8 a e M n λe M n=>C e q8 (k (.x 0) e M n) ((λ(j2:K3)=>(λ(j3:K3)=>R19_10 a e M n λe M n=>C e q9 (R19_11 a e M n λe M n=>R19_12 a e M n λe M n=>R19_13 a e M n λe M n=>R19_14 a e M n λe M n=>(λ(j4:K3)=>loopK (λa e M n k=>R19_15 a e M n λe M n=>C e q12 (k (.x 2) e M n) ((λ(j5:K3)=>(λ(j6:K3)=>R19_17 a e M n λe M n=>(λ(j7:K3)=>R19_18 a e M n λe M n=>(λ(j8:K3)=>C e q14 ((λ(j9:K3)=>R19_20 a e M n λe M n=>R19_21 a e M n λe M n=>(λ(j10:K3)=>C e q16 (j10 e M n) (R19_22 a e M n j10)) j9) λe M n=>R19_19 a e M n j8) (R19_23 a e M n λe M n=>R19_24 a e M n j8)) j7) j6) j5) λe M n=>R10_26 a e M n λe M n=>k .n e M n)) a e M n λex e M n=>Ex.rec (j4 e M n) (k .r e M n) (λid=>Bool.rec (Bool.rec (k (.x id) e M n) (j3 e M n) (Nat.beq id 1)) (j4 e M n) (Nat.beq id 2)) ex) j3) (j3 e M n)) j2) λe M n=>R19_9 a e M n λe M n=>k .n e M n)) a e M n (X k j1 0)) j0) λe M n=>R19_5 a e M n λe M n=>R19_6 a e M n λe M n=>k .r e M n) (R19_0 a e M n λe M n=>k .r e M n)) [.t q17,.t q18] [q0]
def R22_0:RegF:=λa e M n k=>e.g q1 λb=>bxV 41 b M n λc M n=>Z e q2 c M n k
def R22_1:RegF:=λa e M n k=>e.g q2 λb=>e.g q0 λc=>(λW=>v_fa b 1 λd=>L M d λf=>v_le i0 f λg=>oA g (gP g M n (v_fa b 1) λh M n=>gL g M n h λl M n=>gM g M n c λm M n=>gP g M n (v_nck m) λo M n=>gP g M n (v_fa o 8) λp M n=>gL g M n p λq M n=>gP g M n (v_lenS q) λr M n=>gP g M n (v_lt l r) λs M n=>v_pick g s bf λt=>oA t (bR (Z e q3 t M n k) (keptB W M [])))) M
def R22_2:RegF:=λa e M n k=>e.g q2 λb=>e.g q0 λc=>(λW=>v_fa b 1 λd=>L M d λf=>v_eq f m0 λg=>oA g (gP g M n (v_fa b 2) λh M n=>gL g M n h λl M n=>gP g M n (v_le i0 l) λm M n=>v_pick g m bf λo=>oA o (gP o M n (v_fa b 2) λp M n=>gL o M n p λq M n=>gM o M n c λr M n=>gP o M n (v_nck r) λs M n=>gP o M n (v_fa s 0) λt M n=>gL o M n t λu M n=>gP o M n (v_lenS u) λw M n=>gP o M n (v_lt q w) λx M n=>v_pick o x bf λy=>oA y (gM y M n c λz M n=>gP y M n (v_nck z) λA M n=>gP y M n (v_fa A 0) λB M n=>gL y M n B λC M n=>gP y M n (v_fa b 2) λD M n=>gL y M n D λE M n=>gP y M n (v_ixS C E 8) λF M n=>gP y M n (v_fa F 5) λG M n=>gL y M n G λH M n=>gP y M n (v_eq H m0) λJ M n=>v_pick y J bf λK=>oA K (bR (Z e q4 K M n k) (keptB W M [])))))) M
def R22_3:RegF:=λa e M n k=>e.g q0 λb=>e.g q2 λc=>(λW=>oA b (v_fa c 2 λd=>L M d λf=>oA b (v_nck b λg=>v_fa g 1 λh=>L M h λl=>callV a s61 [b,f,l] M n λm M n=>bR (k e M n) (keptB W M [])))) M
def R22_4:RegF:=λa e M n k=>e.g q0 λb=>e.g q2 λc=>(λW=>oA b (v_nck b λd=>v_fa d 8 λf=>L M f λg=>v_fa c 1 λh=>L M h λl=>v_ixS g l 1 λm=>L M m λo=>oA b (v_nck b λp=>v_fa p 1 λq=>L M q λr=>callV a s60 [o,r] M n λs M n=>bR (k e M n) (keptB W M [])))) M
def S22:List (P × I):=[(s0,q0),(s1,q1),(s3,q2),(s4,q3),(s31,q4)]
def G22:F2:=.mk (λa e M n k=>R22_0 a e M n λe M n=>(λ(j0:K3)=>R22_1 a e M n λe M n=>(λ(j1:K3)=>C e q3 (R22_2 a e M n λe M n=>(λ(j2:K3)=>C e q4 (j2 e M n) (R22_3 a e M n j2)) j1) (R22_4 a e M n j1)) j0) λe M n=>k .n e M n) [] [q0,q1]
def R23_1:RegF:=λa e M n k=>e.g q0 λb=>oA b (v_nck b λc=>v_fa c 2 λd=>L M d λf=>callV a s62 [f,(.fn s63 [] [])] M n λg M n=>Y e q1 g M n k)
def R23_2:RegF:=λa e M n k=>e.g q0 λb=>oA b (oA b (callV a s14 [b] M n λc M n=>v_nck b λd=>v_fa d 13 λf=>stV M f c 5 λM=>k e M n))
def R23_3:RegF:=λa e M n k=>e.g q1 λb=>oA b (v_lt b i0 λc=>Z e q7 c M n k)
def R23_4:RegF:=λa e M n k=>e.g q0 λb=>e.g q1 λc=>oA b (v_nck b λd=>v_fa d 5 λf=>L M f λg=>oA c (callV a s68 [g,c,i1] M n λh M n=>k e M n))
def R23_5:RegF:=λa e M n k=>e.g q0 λb=>e.g q1 λc=>oA b (v_nck b λd=>v_fa d 2 λf=>L M f λg=>oA c (v_ixS g c 21 λh=>v_fa h 19 λl=>L M l λm=>v_lt m i0 λo=>oA o (gM o M n b λp M n=>gM o M n c λq M n=>gN o M n (λj=>callV a s69 [p,q] M n λv M n=>j v M n) λr M n=>gP o M n (v_fd r 0 1 false) λs M n=>gP o M n (v_eq s i10) λt M n=>v_pick o t bf λu=>Y e q9 u M n k)))
def R23_6:RegF:=λa e M n k=>e.g q0 λb=>e.g q1 λc=>oA b (oA c (callV a s70 [b,c] M n λd M n=>k e M n))
def R23_7:RegF:=λa e M n k=>e.g q0 λb=>e.g q1 λc=>oA b (oA c (callV a s71 [b,c] M n λd M n=>k e M n))
def R23_8:RegF:=λa e M n k=>e.g q1 λb=>e.g q9 λc=>e.g q2 λd=>oA b (oA c (v_bld [i0,bf] [(0,1,b),(1,1,c)] λf=>stV M d f 2 λM=>k e M n))
def R23_9:RegF:=λa e M n k=>e.g q0 λb=>e.g q1 λc=>oA b (v_nck b λd=>v_fa d 2 λf=>L M f λg=>oA c (v_ixS g c 21 λh=>v_fa h 14 λl=>L M l λm=>Z e q8 m M n k))
def R23_10:RegF:=λa e M n k=>e.g q0 λb=>e.g q1 λc=>(λW=>oA b (v_nck b λd=>v_fa d 2 λf=>ldV M f 1 false λg h=>oA c (oA b (v_nck b λl=>v_fa l 2 λm=>L M m λo=>oA c (v_ixS o c 21 λp=>ldW M p 21 true λ_ q=>callV a s67 [q,i1] M n λr M n=>v_ixS h c 21 λs=>bR (stV M s r 21 λM=>k e M n) (keptB W M (g :: []))))))) M
def R23_12:RegF:=λa e M n k=>e.g q1 λb=>oA b (v_lt b i0 λc=>Z e q4 c M n k)
def R23_13:RegF:=λa e M n k=>e.g q0 λb=>oA b (callV a s64 [b] M n λc M n=>oA c (v_ext c 0 λd=>v_ext c 1 λf=>oA d (oA f (e.t q3 d λe=>Z e q5 f M n k))))
def R23_14:RegF:=λa e M n k=>e.g q5 λb=>Y e q6 b M n k
def R23_15:RegF:=λa e M n k=>e.g q0 λb=>oA b (callV a s66 [b] M n λc M n=>Y e q1 c M n k)
def R23_17:RegF:=λa e M n k=>e.g q0 λb=>e.g q3 λc=>oA b (oA c (callV a s65 [b,c] M n λd M n=>k e M n))
def R23_18:RegF:=λa e M n k=>e.g q3 λb=>e.g q2 λc=>oA b (v_sub m1 b λd=>v_bld [i0,bf] [(0,1,d)] λf=>stV M c f 2 λM=>k e M n)
def S23:List (P × I):=[(s0,q0),(s3,q1),(s2,q2),(s4,q3),(s13,q4),(s5,q5),(s19,q6),(s39,q7),(s48,q8),(s6,q9)]
def G23:F2:=.mk (λa e M n k=>R10_0 a e M n λe M n=>R23_1 a e M n λe M n=>(λ(j0:K3)=>R23_12 a e M n λe M n=>(λ(j3:K3)=>C e q4 (j3 e M n) (R23_13 a e M n λe M n=>R23_14 a e M n λe M n=>C e q6 (R23_15 a e M n j3) (R23_2 a e M n λe M n=>R23_17 a e M n λe M n=>R23_18 a e M n λe M n=>k .r e M n))) j0) λe M n=>R23_2 a e M n λe M n=>R23_3 a e M n λe M n=>C e q7 ((λ(j1:K3)=>R23_9 a e M n λe M n=>(λ(j2:K3)=>C e q8 (j2 e M n) (R23_10 a e M n j2)) j1) λe M n=>R23_4 a e M n λe M n=>R23_5 a e M n λe M n=>R23_6 a e M n λe M n=>R23_7 a e M n λe M n=>R23_8 a e M n λe M n=>k .r e M n) (R10_27 a e M n λe M n=>k .r e M n)) [.c q2 2 true] [q0]
def R24_0:RegF:=λa e M n k=>Y e q2 bf M n k
def R24_1:RegF:=λa e M n k=>e.g q0 λb=>e.g q1 λc=>oA b (oA c (callV a s62 [b,c] M n λd M n=>v_le i0 d λf=>Y e q2 f M n k))
def S24:List (P × I):=[(s0,q0),(s1,q1),(s4,q2)]
def G24:F2:=.mk (λa e M n k=>R24_0 a e M n λe M n=>R24_1 a e M n λe M n=>k .r e M n) [.t q2] [q0,q1]
def R25_0:RegF:=λa e M n k=>e.g q0 λb=>bxV 102 b M n λc M n=>oA bf (e.t q1 c λe=>Z e q2 bf M n k)
def R25_1:RegF:=λa e M n k=>e.g q1 λb=>v_fa b 14 λc=>L M c λd=>Y e q2 d M n k
def S25:List (P × I):=[(s0,q0),(s1,q1),(s2,q2)]
def G25:F2:=.mk (λa e M n k=>R25_0 a e M n λe M n=>R25_1 a e M n λe M n=>k .r e M n) [.t q2] [q0]
def R26_0:RegF:=λa e M n k=>e.g q0 λb=>oA b (v_nqP true b λc=>Z e q2 c M n k)
def R26_1:RegF:=λa e M n k=>e.g q0 λb=>e.g q1 λc=>(λW=>oA b (oA b (v_nck b λd=>v_fa d 1 λf=>ldV M f 1 false λg h=>oA c (callV a s72 [c] M n λl M n=>v_max h l λm=>v_nck b λo=>v_fa o 1 λp=>bR (stV M p m 1 λM=>k e M n) (keptB W M (g :: [])))))) M
def S26:List (P × I):=[(s0,q0),(s1,q1),(s5,q2)]
def G26:F2:=.mk (λa e M n k=>R26_0 a e M n λe M n=>(λ(j0:K3)=>C e q2 (j0 e M n) (R26_1 a e M n j0)) λe M n=>k .n e M n) [] [q0,q1]
def R27_1:RegF:=λa e M n k=>e.g q1 λb=>oA b (callV a s72 [b] M n λc M n=>Y e q1 c M n k)
def R27_2:RegF:=λa e M n k=>e.g q0 λb=>e.g q1 λc=>(λW=>oA b (v_nqP false b λd=>oA d (hM d M n c λf M n=>hM d M n b λg M n=>hP d M n (v_nck g) λh M n=>hP d M n (v_fa h 1) λl M n=>hL d M n l λm M n=>hP d M n (v_sub f m) λo M n=>hM d M n b λp M n=>hP d M n (v_nck p) λq M n=>hP d M n (v_fa q 0) λr M n=>hL d M n r λs M n=>hP d M n (v_lt o s) λt M n=>v_pick d bt t λu=>bR (Z e q2 u M n k) (keptB W M [])))) M
def R27_3:RegF:=λa e M n k=>e.g q0 λb=>oA b (v_mkf s26 [b] [] λc=>Y e q3 c M n k)
def R27_4:RegF:=λa e M n k=>e.g q3 λb=>e.g q1 λc=>oA b (oA c (cvV a b [c] M n λd M n=>k e M n))
def R27_5:RegF:=λa e M n k=>e.g q0 λb=>e.g q1 λc=>oA b (oA b (v_nck b λd=>v_fa d 2 λf=>L M f λg=>oA c (bslV 3 1 1 [i0] [(0,1,c)] M n λh M n=>appV 3 1 8 g h M n λl M n=>v_nck b λm=>v_fa m 2 λo=>stV M o l 1 λM=>k e M n)))
def R27_6:RegF:=λa e M n k=>Y e q4 bt M n k
def S27:List (P × I):=[(s0,q0),(s1,q1),(s22,q2),(s5,q3),(s4,q4)]
def G27:F2:=.mk (λa e M n k=>R16_0 a e M n λe M n=>R27_1 a e M n λe M n=>R27_2 a e M n λe M n=>C e q2 (R27_3 a e M n λe M n=>R27_4 a e M n λe M n=>R27_5 a e M n λe M n=>R27_6 a e M n λe M n=>k .r e M n) (R16_0 a e M n λe M n=>k .r e M n)) [.t q4] [q0,q1]
def R28_0:RegF:=λa e M n k=>Y e q8 .nils M n k
def R28_1:RegF:=λa e M n k=>e.g q0 λb=>oA b (v_nqP false b λc=>Z e q3 c M n k)
def R28_3:RegF:=λa e M n k=>e.g q0 λb=>oA b (v_mkf s73 [b] [] λc=>Y e q6 c M n k)
def R28_4:RegF:=λa e M n k=>e.g q2 λb=>oA b (Y e q8 b M n k)
def R28_5:RegF:=λa e M n k=>e.g q0 λb=>oA b (v_nck b λc=>v_fa c 0 λd=>L M d λf=>callV a s74 [f] M n λg M n=>oA i0 (e.t q4 g λe=>Z e q1 i0 M n k))
def R28_6:RegF:=λa e M n k=>e.g q1 λb=>e.g q4 λc=>v_lt b c λd=>Z e q5 d M n k
def R28_7:RegF:=λa e M n k=>e.g q1 λb=>oA b (Y e q7 b M n k)
def R28_8:RegF:=λa e M n k=>e.g q2 λb=>e.g q6 λc=>e.g q7 λd=>oA b (oA c (oA d (cvV a c [d] M n λf M n=>bslV 3 1 1 [i0] [(0,1,f)] M n λg M n=>appV 3 1 8 b g M n λh M n=>Y e q2 h M n k)))
def R28_9:RegF:=λa e M n k=>e.g q1 λb=>v_add b i1 λc=>Y e q1 c M n k
def S28:List (P × I):=[(s0,q0),(s15,q1),(s3,q2),(s7,q3),(s14,q4),(s16,q5),(s4,q6),(s5,q7),(s2,q8)]
def G28:F2:=.mk (λa e M n k=>R28_0 a e M n λe M n=>R28_1 a e M n λe M n=>C e q3 (R15_0 a e M n λe M n=>R28_3 a e M n λe M n=>(λ(j0:K3)=>R28_5 a e M n λe M n=>(λ(j1:K3)=>loopK (λa e M n k=>R28_6 a e M n λe M n=>C e q5 (k (.x 0) e M n) (R28_7 a e M n λe M n=>R28_8 a e M n λe M n=>R28_9 a e M n λe M n=>k .n e M n)) a e M n (X k j1 0)) j0) λe M n=>R28_4 a e M n λe M n=>k .r e M n) (R28_0 a e M n λe M n=>k .r e M n)) [.t q8] [q0]
def R29_2:RegF:=λa e M n k=>e.g q0 λb=>oA b (v_nck b λc=>v_fa c 2 λd=>L M d λf=>callV a s39 [f] M n λg M n=>Y e q2 g M n k)
def S29:List (P × I):=[(s0,q0),(s4,q1),(s2,q2)]
def G29:F2:=.mk (λa e M n k=>R15_0 a e M n λe M n=>R15_1 a e M n λe M n=>C e q1 (R29_2 a e M n λe M n=>k .r e M n) (R15_0 a e M n λe M n=>k .r e M n)) [.t q2] [q0]
def R30_0:RegF:=λa e M n k=>Y e q3 .nils M n k
def R30_1:RegF:=λa e M n k=>e.g q0 λb=>oA b (v_nqP false b λc=>Z e q2 c M n k)
def R30_2:RegF:=λa e M n k=>e.g q0 λb=>e.g q1 λc=>oA b (v_nck b λd=>v_fa d 1 λf=>L M f λg=>oA c (lkuV .nils false g c M λh=>callV a s75 [h] M n λl M n=>Y e q3 l M n k))
def S30:List (P × I):=[(s0,q0),(s1,q1),(s6,q2),(s4,q3)]
def G30:F2:=.mk (λa e M n k=>R30_0 a e M n λe M n=>R30_1 a e M n λe M n=>C e q2 (R30_2 a e M n λe M n=>k .r e M n) (R30_0 a e M n λe M n=>k .r e M n)) [.t q3] [q0,q1]
def R32_1:RegF:=λa e M n k=>e.g q0 λb=>oA b (v_nqS false b λc=>Z e q1 c M n k)
def R32_2:RegF:=λa e M n k=>e.g q0 λb=>bslV 60 6 0 [] [] M n λc M n=>oA b (appV 60 6 48 c b M n λd M n=>Y e q2 d M n k)
def S32:List (P × I):=[(s0,q0),(s4,q1),(s2,q2)]
def G32:F2:=.mk (λa e M n k=>R15_0 a e M n λe M n=>R32_1 a e M n λe M n=>C e q1 (R32_2 a e M n λe M n=>k .r e M n) (R15_0 a e M n λe M n=>k .r e M n)) [.t q2] [q0]
def R33_0:RegF:=λa e M n k=>e.g q0 λb=>bxV 28 b M n λc M n=>oA .nils (oA .nils (oA .nils (oA i0 (e.t q5 c λe=>e.t q7 .nils λe=>e.t q8 .nils λe=>e.t q9 .nils λe=>Z e q10 i0 M n k))))
def R33_1:RegF:=λa e M n k=>e.g q5 λb=>ldW M b 6 true λ_ c=>callV a s76 [c] M n λd M n=>oA d (v_ext d 0 λf=>v_ext d 1 λg=>oA f (oA g (e.t q4 f λe=>Z e q3 g M n k)))
def R33_2:RegF:=λa e M n k=>e.g q3 λb=>oA b (v_ne b i0 λc=>Z e q6 c M n k)
def R33_3:RegF:=λa e M n k=>e.g q4 λb=>e.g q1 λc=>e.g q2 λd=>oA b (oA c (oA d (callV a s77 [b,c,d] M n λf M n=>k e M n)))
def R33_4:RegF:=λa e M n k=>e.g q4 λb=>(λW=>oA b (v_nck b λc=>v_fa c 1 λd=>ldV M d 1 false λf g=>oA b (v_nck b λh=>v_fa h 0 λl=>L M l λm=>callV a s15 [m] M n λo M n=>oA b (v_nck b λp=>v_fa p 0 λq=>ldV M q 1 false λr s=>callV a s78 [s] M n λt M n=>oA g (oA o (oA t (oA i0 (bR (e.t q7 g λe=>e.t q8 o λe=>e.t q9 t λe=>Z e q10 i0 M n k) (keptB W M (r :: (f :: []))))))))))) M
def R33_5:RegF:=λa e M n k=>e.g q3 λb=>oA b (oA .nils (oA .nils (oA .nils (oA b (e.t q7 .nils λe=>e.t q8 .nils λe=>e.t q9 .nils λe=>Z e q10 b M n k)))))
def S33:List (P × I):=[(s0,q0),(s1,q1),(s2,q2),(s11,q3),(s10,q4),(s3,q5),(s18,q6),(s6,q7),(s7,q8),(s8,q9),(s9,q10)]
def G33:F2:=.mk (λa e M n k=>R33_0 a e M n λe M n=>R33_1 a e M n λe M n=>R33_2 a e M n λe M n=>C e q6 (R33_3 a e M n λe M n=>R33_4 a e M n λe M n=>k .r e M n) (R33_5 a e M n λe M n=>k .r e M n)) [.t q7,.t q8,.t q9,.t q10] [q0,q1,q2]
def R34_0:RegF:=λa e M n k=>alV 28 [.nils,.nils,.nils,.nils,i0,i0] M n λb M n=>Z e q0 b M n k
def R34_1:RegF:=λa e M n k=>v_bld [i0,i0,i0,i0,i0,i0,i0,(.str []),(.str [])] [(0,1,i2)] λb=>v_bld [i0,i0,i0,i0,i0,i0,i0,(.str []),(.str [])] [(0,1,i1),(1,1,i3)] λc=>v_bld [i0,i0,i0,i0,i0,i0,i0,(.str []),(.str [])] [(0,1,i3)] λd=>bslV 66 9 3 (rep 7 i0 ++ [(.str []),(.str [])] ++ rep 7 i0 ++ [(.str []),(.str [])] ++ rep 7 i0 ++ [(.str []),(.str [])]) [(0,9,b),(9,9,c),(18,9,d)] M n λf M n=>Y e q2 f M n k
def R34_2:RegF:=λa e M n k=>v_bld [i0,i0,i0,i0,i0,i0,i0,(.str []),(.str [])] [(0,1,i2)] λb=>v_bld [i0,i0,i0,i0,i0,i0,i0,(.str []),(.str [])] [(0,1,i3)] λc=>bslV 66 9 2 (rep 7 i0 ++ [(.str []),(.str [])] ++ rep 7 i0 ++ [(.str []),(.str [])]) [(0,9,b),(9,9,c)] M n λd M n=>Y e q1 d M n k
def R34_3:RegF:=λa e M n k=>e.g q1 λb=>e.g q2 λc=>e.g q0 λd=>v_bld [i0,i0] [(0,1,i1),(1,1,i9)] λf=>bslV 175 2 1 [i0,i0] [(0,2,f)] M n λg M n=>bslV 3 1 1 [i0] [(0,1,i0)] M n λh M n=>oA b (v_bld [i0,i0,i0,i0,i0,i0,.nils,.nils] [(0,1,i2),(1,1,i9),(2,1,i50),(3,1,i40),(4,1,i5),(5,1,m0),(6,1,h),(7,1,b)] λl=>bslV 32 8 1 [i0,i0,i0,i0,i0,i0,.nils,.nils] [(0,8,l)] M n λm M n=>oA c (v_bld [i0,.nils] [(1,1,c)] λo=>bslV 68 2 1 [i0,.nils] [(0,2,o)] M n λp M n=>v_bld [.nils,.nils,.nils,.nils,i0,i0] [(4,1,i8),(5,1,i100),(2,1,g),(0,1,m),(1,1,p)] λq=>stV M d q 6 λM=>k e M n))
def S34:List (P × I):=[(s0,q0),(s2,q1),(s1,q2)]
def G34:F2:=.mk (λa e M n k=>R34_0 a e M n λe M n=>R34_1 a e M n λe M n=>R34_2 a e M n λe M n=>R34_3 a e M n λe M n=>k .r e M n) [.c q0 6 true] []
def R35_0:RegF:=λa e M n k=>Y e q6 bf M n k
def R35_1:RegF:=λa e M n k=>e.g q0 λb=>e.g q1 λc=>oA b (v_lenS b λd=>oA c (v_lenS c λf=>v_ne d f λg=>Z e q3 g M n k))
def R35_2:RegF:=λa e M n k=>Y e q6 bt M n k
def R35_3:RegF:=λa e M n k=>Y e q2 i0 M n k
def R35_4:RegF:=λa e M n k=>e.g q2 λb=>e.g q0 λc=>oA b (oA c (v_lenS c λd=>v_lt b d λf=>Z e q4 f M n k))
def R35_5:RegF:=λa e M n k=>e.g q0 λb=>e.g q2 λc=>e.g q1 λd=>(λW=>oA b (oA c (v_ixS b c 2 λf=>ldW M f 2 true λ_ g=>oA d (oA c (v_ixS d c 2 λh=>ldW M h 2 true λ_ l=>v_aeq true [(0,.i),(1,.b)] g l λm=>bR (Z e q5 m M n k) (keptB W M [])))))) M
def R35_6:RegF:=λa e M n k=>e.g q2 λb=>oA b (v_add b i1 λc=>Y e q2 c M n k)
def S35:List (P × I):=[(s0,q0),(s1,q1),(s5,q2),(s10,q3),(s14,q4),(s25,q5),(s4,q6)]
def G35:F2:=.mk (λa e M n k=>R35_0 a e M n λe M n=>R35_1 a e M n λe M n=>C e q3 ((λ(j0:K3)=>R35_3 a e M n λe M n=>(λ(j1:K3)=>loopK (λa e M n k=>R35_4 a e M n λe M n=>C e q4 (k (.x 0) e M n) (R35_5 a e M n λe M n=>C e q5 (R35_6 a e M n λe M n=>k .n e M n) (R35_0 a e M n λe M n=>k .r e M n))) a e M n (X k j1 0)) j0) λe M n=>R35_2 a e M n λe M n=>k .r e M n) (R35_0 a e M n λe M n=>k .r e M n)) [.t q6] [q0,q1]
def R36_0:RegF:=λa e M n k=>e.g q0 λb=>bxV 60 b M n λc M n=>oA bf (e.t q1 c λe=>Z e q2 bf M n k)
def R36_1:RegF:=λa e M n k=>e.g q1 λb=>v_fa b 3 λc=>L M c λd=>v_fa b 2 λf=>L M f λg=>v_lt g d λh=>Y e q2 h M n k
def S36:List (P × I):=[(s0,q0),(s1,q1),(s2,q2)]
def G36:F2:=.mk (λa e M n k=>R36_0 a e M n λe M n=>R36_1 a e M n λe M n=>k .r e M n) [.t q2] [q0]
def R37_0:RegF:=λa e M n k=>e.g q0 λb=>bxV 47 b M n λc M n=>oA bf (e.t q1 c λe=>Z e q2 bf M n k)
def R37_1:RegF:=λa e M n k=>e.g q1 λb=>(λW=>ldW M b 5 true λ_ c=>callV a s80 [c] M n λd M n=>v_fa b 2 λf=>ldV M f 1 false λg h=>v_fa b 1 λl=>ldV M l 1 false λm o=>v_lenS o λp=>callV a s79 [d,h,p] M n λq M n=>oA q (bR (Z e q2 q M n k) (keptB W M (m :: (g :: []))))) M
def S37:List (P × I):=[(s0,q0),(s1,q1),(s2,q2)]
def G37:F2:=.mk (λa e M n k=>R37_0 a e M n λe M n=>R37_1 a e M n λe M n=>k .r e M n) [.t q2] [q0]
def R38_0:RegF:=λa e M n k=>e.g q0 λb=>bxV 28 b M n λc M n=>oA bf (e.t q1 c λe=>Z e q18 bf M n k)
def R38_1:RegF:=λa e M n k=>e.g q1 λb=>v_fa b 0 λc=>L M c λd=>v_lenS d λf=>v_lt i8 f λg=>oA g (hP g M n (v_fa b 1) λh M n=>hL g M n h λl M n=>hP g M n (v_lenS l) λm M n=>hP g M n (v_lt i6 m) λo M n=>v_pick g bt o λp=>oA p (hP p M n (v_fa b 3) λq M n=>hL p M n q λr M n=>hP p M n (v_lenS r) λs M n=>hP p M n (v_lt i4 s) λt M n=>v_pick p bt t λu=>oA u (hP u M n (v_fa b 4) λw M n=>hL u M n w λx M n=>hN u M n (λj=>callV a s81 [x,i8,i64] M n λv M n=>j v M n) λy M n=>hP u M n (v_not y) λz M n=>v_pick u bt z λA=>oA A (hP A M n (v_fa b 5) λB M n=>hL A M n B λC M n=>hN A M n (λj=>callV a s81 [C,i1,i1099511627776] M n λv M n=>j v M n) λD M n=>hP A M n (v_not D) λE M n=>v_pick A bt E λF=>Z e q6 F M n k))))
def R38_2:RegF:=λa e M n k=>Y e q18 bf M n k
def R38_3:RegF:=λa e M n k=>e.g q1 λb=>v_fa b 2 λc=>L M c λd=>callV a s44 [d] M n λf M n=>oA f (v_ext f 0 λg=>v_ext f 1 λh=>oA g (Y e q7 h M n k))
def R38_4:RegF:=λa e M n k=>e.g q7 λb=>oA b (v_ne b i0 λc=>Z e q8 c M n k)
def R38_6:RegF:=λa e M n k=>mkmV M n λb M n=>Y e q5 b M n k
def R38_7:RegF:=λa e M n k=>e.g q1 λb=>v_fa b 0 λc=>L M c λd=>v_lenS d λf=>oA i0 (e.t q11 d λe=>e.t q9 f λe=>Z e q2 i0 M n k)
def R38_8:RegF:=λa e M n k=>e.g q2 λb=>e.g q9 λc=>v_lt b c λd=>Z e q10 d M n k
def R38_9:RegF:=λa e M n k=>e.g q11 λb=>e.g q2 λc=>v_ixS b c 8 λd=>ldW M d 8 true λ_ f=>alV 32 [i0,i0,i0,i0,i0,i0,.nils,.nils] M n λg M n=>stV M g f 8 λM=>Z e q4 g M n k
def R38_10:RegF:=λa e M n k=>e.g q1 λb=>e.g q4 λc=>e.g q5 λd=>ldW M b 6 true λ_ f=>ldW M c 8 true λ_ g=>callV a s82 [f,g] M n λh M n=>v_not h λl=>oA l (hP l M n (v_fa c 5) λm M n=>hL l M n m λo M n=>hP l M n (v_le i0 o) λp M n=>hM l M n p λq M n=>gM q M n d λr M n=>gP q M n (v_fa c 5) λs M n=>gL q M n s λt M n=>gN q M n (λj=>lkuV i0 false r t M λv=>j v M n) λu M n=>gP q M n (v_lt i0 u) λw M n=>hP l M n (v_pick q w bf) λx M n=>v_pick l bt x λy=>Z e q12 y M n k)
def R38_12:RegF:=λa e M n k=>e.g q5 λb=>e.g q4 λc=>oA b (v_fa c 5 λd=>L M d λf=>lkuV i0 false b f M λg=>v_add g i1 λh=>mupV b f h M λM=>k e M n)
def R38_14:RegF:=λa e M n k=>e.g q1 λb=>v_fa b 1 λc=>L M c λd=>v_lenS d λf=>oA i0 (e.t q15 d λe=>e.t q13 f λe=>Z e q3 i0 M n k)
def R38_15:RegF:=λa e M n k=>e.g q3 λb=>e.g q13 λc=>v_lt b c λd=>Z e q14 d M n k
def R38_16:RegF:=λa e M n k=>e.g q15 λb=>e.g q3 λc=>v_ixS b c 2 λd=>ldW M d 2 true λ_ f=>alV 68 [i0,.nils] M n λg M n=>stV M g f 2 λM=>Z e q16 g M n k
def R38_17:RegF:=λa e M n k=>e.g q16 λb=>v_fa b 0 λc=>L M c λd=>callV a s81 [d,i0,i15] M n λf M n=>v_not f λg=>oA g (hP g M n (v_fa b 1) λh M n=>hL g M n h λl M n=>hP g M n (v_lenS l) λm M n=>hP g M n (v_lt i40 m) λo M n=>v_pick g bt o λp=>Z e q17 p M n k)
def R38_20:RegF:=λa e M n k=>e.g q1 λb=>v_fa b 3 λc=>L M c λd=>callV a s83 [d,(.fn s84 [] [])] M n λf M n=>v_not f λg=>Y e q18 g M n k
def S38:List (P × I):=[(s0,q0),(s1,q1),(s50,q2),(s79,q3),(s7,q4),(s5,q5),(s37,q6),(s4,q7),(s45,q8),(s49,q9),(s51,q10),(s48,q11),(s69,q12),(s78,q13),(s80,q14),(s77,q15),(s9,q16),(s92,q17),(s2,q18)]
def G38:F2:=.mk ((c_seq (c_fn R38_0) (c_seq (c_seq (c_fn R38_1) (c_cond (.t q6) (c_seq (c_fn R38_2) c_ret) c_skip)) (c_seq (c_seq (c_fn R38_3) (c_seq (c_fn R38_4) (c_cond (.t q8) (c_seq (c_fn R38_2) c_ret) c_skip))) (c_seq (c_fn R38_6) (c_seq (c_seq (c_fn R38_7) (c_blk 0 (loopK (c_seq (c_fn R38_8) (c_seq (c_cond (.t q10) c_skip (c_exit 0)) (c_seq (c_blk 1 (c_seq (c_fn R38_9) (c_seq (c_seq (c_fn R38_10) (c_cond (.t q12) (c_seq (c_fn R38_2) c_ret) c_skip)) (c_fn R38_12)))) (c_fn R14_15))))))) (c_seq (c_seq (c_fn R38_14) (c_blk 2 (loopK (c_seq (c_fn R38_15) (c_seq (c_cond (.t q14) c_skip (c_exit 2)) (c_seq (c_blk 3 (c_seq (c_fn R38_16) (c_seq (c_fn R38_17) (c_cond (.t q17) (c_seq (c_fn R38_2) c_ret) c_skip)))) (c_fn R10_26))))))) (c_seq (c_fn R38_20) c_ret)))))))) [.t q18] [q0]
def R39_2:RegF:=λa e M n k=>e.g q0 λb=>bslV 3 1 0 [] [] M n λc M n=>oA b (appV 3 1 8 c b M n λd M n=>Y e q2 d M n k)
def S39:List (P × I):=[(s0,q0),(s4,q1),(s2,q2)]
def G39:F2:=.mk (λa e M n k=>R15_0 a e M n λe M n=>R32_1 a e M n λe M n=>C e q1 (R39_2 a e M n λe M n=>k .r e M n) (R15_0 a e M n λe M n=>k .r e M n)) [.t q2] [q0]
def R40_0:RegF:=λa e M n k=>e.g q1 λb=>bxV 102 b M n λc M n=>Z e q3 c M n k
def R40_1:RegF:=λa e M n k=>e.g q0 λb=>e.g q3 λc=>(λW=>oA b (oA b (v_nck b λd=>v_fa d 2 λf=>L M f λg=>ldW M c 21 true λ_ h=>bslV 102 21 1 (rep 9 i0 ++ [bf,i0,i0,i0,(.str []),bf,i0,i0,i0,i0,i0,.nils]) [(0,21,h)] M n λl M n=>appV 102 21 192 g l M n λm M n=>v_nck b λo=>v_fa o 2 λp=>bR (stV M p m 1 λM=>k e M n) (keptB W M [])))) M
def R40_2:RegF:=λa e M n k=>e.g q0 λb=>e.g q2 λc=>oA b (oA b (v_nck b λd=>v_fa d 3 λf=>L M f λg=>oA c (bslV 29 1 1 [.nils] [(0,1,c)] M n λh M n=>appV 29 1 24 g h M n λl M n=>v_nck b λm=>v_fa m 3 λo=>stV M o l 1 λM=>k e M n)))
def S40:List (P × I):=[(s0,q0),(s1,q1),(s2,q2),(s4,q3)]
def G40:F2:=.mk (λa e M n k=>R40_0 a e M n λe M n=>R40_1 a e M n λe M n=>R40_2 a e M n λe M n=>k .n e M n) [] [q0,q1,q2]
def R41_0:RegF:=λa e M n k=>e.g q1 λb=>bxV 32 b M n λc M n=>alV 102 (rep 9 i0 ++ [bf,i0,i0,i0,(.str []),bf,i0,i0,i0,i0,i0,.nils]) M n λd M n=>e.t q3 c λe=>Z e q2 d M n k
def R41_1:RegF:=λa e M n k=>e.g q0 λb=>e.g q3 λc=>e.g q2 λd=>oA b (v_fa c 0 λf=>L M f λg=>v_fa c 1 λh=>L M h λl=>v_bld [i0,i0,i0] [(0,1,g),(1,1,l)] λm=>callV a s85 [b,m,i0] M n λo M n=>stV M d o 21 λM=>k e M n)
def S41:List (P × I):=[(s0,q0),(s1,q1),(s4,q2),(s3,q3)]
def G41:F2:=.mk (λa e M n k=>R41_0 a e M n λe M n=>R41_1 a e M n λe M n=>k .r e M n) [.c q2 21 true] [q0,q1]
def R42_2:RegF:=λa e M n k=>e.g q3 λb=>oA b (Y e q8 b M n k)
def R42_3:RegF:=λa e M n k=>e.g q0 λb=>oA b (oA b (v_lenS b λc=>v_min c i40 λd=>v_slH b d λf=>v_lenS f λg=>oA i0 (e.t q6 f λe=>e.t q4 g λe=>Z e q1 i0 M n k)))
def R42_5:RegF:=λa e M n k=>e.g q6 λb=>e.g q1 λc=>v_ixS b c 9 λd=>ldW M d 9 true λ_ f=>alV 66 [i0,i0,i0,i0,i0,i0,i0,(.str []),(.str [])] M n λg M n=>stV M g f 9 λM=>Z e q2 g M n k
def R42_6:RegF:=λa e M n k=>e.g q3 λb=>e.g q2 λc=>oA b (ldW M c 9 true λ_ d=>bslV 66 9 1 [i0,i0,i0,i0,i0,i0,i0,(.str []),(.str [])] [(0,9,d)] M n λf M n=>appV 66 9 88 b f M n λg M n=>Y e q3 g M n k)
def R42_8:RegF:=λa e M n k=>e.g q2 λb=>ldW M b 9 true λ_ c=>callV a s86 [c] M n λd M n=>v_not d λf=>Z e q7 f M n k
def R42_9:RegF:=λa e M n k=>e.g q2 λb=>v_bld [i0,i0,i0,i0,i0,i0,i0,(.str []),(.str [])] [] λc=>stV M b c 9 λM=>k e M n
def S42:List (P × I):=[(s0,q0),(s12,q1),(s5,q2),(s3,q3),(s11,q4),(s13,q5),(s10,q6),(s18,q7),(s2,q8)]
def G42:F2:=.mk (λa e M n k=>R28_0 a e M n λe M n=>R30_0 a e M n λe M n=>(λ(j0:K3)=>R42_3 a e M n λe M n=>(λ(j1:K3)=>loopK (λa e M n k=>R28_6 a e M n λe M n=>C e q5 (k (.x 0) e M n) (R42_5 a e M n λe M n=>(λ(j2:K3)=>R42_8 a e M n λe M n=>(λ(j3:K3)=>C e q7 (j3 e M n) (R42_9 a e M n j3)) j2) λe M n=>R42_6 a e M n λe M n=>R28_9 a e M n λe M n=>k .n e M n)) a e M n (X k j1 0)) j0) λe M n=>R42_2 a e M n λe M n=>k .r e M n) [.t q8] [q0]
def R43_0:RegF:=λa e M n k=>e.g q1 λb=>bxV 68 b M n λc M n=>alV 102 (rep 9 i0 ++ [bf,i0,i0,i0,(.str []),bf,i0,i0,i0,i0,i0,.nils]) M n λd M n=>e.t q3 c λe=>Z e q2 d M n k
def R43_1:RegF:=λa e M n k=>e.g q0 λb=>e.g q3 λc=>e.g q2 λd=>oA b (v_fa c 0 λf=>L M f λg=>v_bld [i0,i0,i0] [(0,1,i0),(1,1,g)] λh=>callV a s85 [b,h,i1] M n λl M n=>stV M d l 21 λM=>k e M n)
def S43:List (P × I):=[(s0,q0),(s1,q1),(s4,q2),(s3,q3)]
def G43:F2:=.mk (λa e M n k=>R43_0 a e M n λe M n=>R43_1 a e M n λe M n=>k .r e M n) [.c q2 21 true] [q0,q1]
def R44_0:RegF:=λa e M n k=>oA (.nil) (oA i0 (e.t q2 (.nil) λe=>Z e q3 i0 M n k))
def R44_1:RegF:=λa e M n k=>e.g q0 λb=>oA b (v_lenS b λc=>v_lt i6 c λd=>oA d (hM d M n b λf M n=>hN d M n (λj=>callV a s87 [f,(.fn s88 [] [])] M n λv M n=>j v M n) λg M n=>v_pick d bt g λh=>Z e q1 h M n k))
def R44_2:RegF:=λa e M n k=>e.g q0 λb=>oA b (callV a s90 [b] M n λc M n=>v_bld [.nils] [(0,1,c)] λd=>bxV 187 d M n λf M n=>oA f (oA i0 (e.t q2 f λe=>Z e q3 i0 M n k)))
def R44_3:RegF:=λa e M n k=>oA (.nil) (oA i2 (e.t q2 (.nil) λe=>Z e q3 i2 M n k))
def S44:List (P × I):=[(s0,q0),(s10,q1),(s2,q2),(s3,q3)]
def G44:F2:=.mk (λa e M n k=>R44_0 a e M n λe M n=>R44_1 a e M n λe M n=>C e q1 (R44_2 a e M n λe M n=>k .r e M n) (R44_3 a e M n λe M n=>k .r e M n)) [.t q2,.t q3] [q0]
def R45_0:RegF:=λa e M n k=>oA (.nil) (e.t q2 (.nil) λe=>k e M n)
def R45_1:RegF:=λa e M n k=>e.g q0 λb=>oA b (mkmV M n λc M n=>mkmV M n λd M n=>v_bld [.nil,.nilm,.nilm] [(0,1,b),(1,1,c),(2,1,d)] λf=>bxV 163 f M n λg M n=>Y e q2 g M n k)
def R45_3:RegF:=λa e M n k=>callV a s44 [.nils] M n λb M n=>oA b (v_ext b 0 λc=>v_ext b 1 λd=>Y e q0 c M n k)
def S45:List (P × I):=[(s0,q0),(s4,q1),(s2,q2)]
def G45:F2:=.mk (λa e M n k=>R45_0 a e M n λe M n=>(λ(j0:K3)=>R15_1 a e M n λe M n=>(λ(j1:K3)=>C e q1 (j1 e M n) (R45_3 a e M n j1)) j0) λe M n=>R45_1 a e M n λe M n=>k .r e M n) [.t q2] [q0]
def R46_1:RegF:=λa e M n k=>e.g q0 λb=>oA b (v_lt b i1 λc=>oA c (hM c M n b λd M n=>hP c M n (v_lt i4 d) λf M n=>v_pick c bt f λg=>Z e q1 g M n k))
def R46_2:RegF:=λa e M n k=>e.g q0 λb=>oA b (mksV 26 1 24 [.nils] b b M n λc M n=>v_bld [.nils] [(0,1,c)] λd=>bxV 190 d M n λf M n=>oA f (oA i0 (e.t q2 f λe=>Z e q3 i0 M n k)))
def S46:List (P × I):=[(s0,q0),(s9,q1),(s2,q2),(s3,q3)]
def G46:F2:=.mk (λa e M n k=>R44_0 a e M n λe M n=>R46_1 a e M n λe M n=>C e q1 (R46_2 a e M n λe M n=>k .r e M n) (R44_3 a e M n λe M n=>k .r e M n)) [.t q2,.t q3] [q0]
def R47_1:RegF:=λa e M n k=>e.g q0 λb=>oA b (v_lt b i0 λc=>oA c (hM c M n b λd M n=>hP c M n (v_le i16777216 d) λf M n=>v_pick c bt f λg=>Z e q1 g M n k))
def R47_2:RegF:=λa e M n k=>e.g q0 λb=>oA b (v_bld ([i0] ++ rep 256 .nils ++ [i0]) [(0,1,b)] λc=>bxV 140 c M n λd M n=>oA d (oA i0 (e.t q2 d λe=>Z e q3 i0 M n k)))
def S47:List (P × I):=[(s0,q0),(s9,q1),(s2,q2),(s3,q3)]
def G47:F2:=.mk (λa e M n k=>R44_0 a e M n λe M n=>R47_1 a e M n λe M n=>C e q1 (R47_2 a e M n λe M n=>k .r e M n) (R44_3 a e M n λe M n=>k .r e M n)) [.t q2,.t q3] [q0]
def R49_1:RegF:=λa e M n k=>e.g q0 λb=>oA b (v_lt b i1 λc=>oA c (hM c M n b λd M n=>hP c M n (v_lt i1099511627776 d) λf M n=>v_pick c bt f λg=>Z e q1 g M n k))
def R49_2:RegF:=λa e M n k=>e.g q0 λb=>oA b (v_bld [i0,i0,.nils] [(0,1,b)] λc=>bxV 158 c M n λd M n=>oA d (oA i0 (e.t q2 d λe=>Z e q3 i0 M n k)))
def S49:List (P × I):=[(s0,q0),(s9,q1),(s2,q2),(s3,q3)]
def G49:F2:=.mk (λa e M n k=>R44_0 a e M n λe M n=>R49_1 a e M n λe M n=>C e q1 (R49_2 a e M n λe M n=>k .r e M n) (R44_3 a e M n λe M n=>k .r e M n)) [.t q2,.t q3] [q0]
def R50_0:RegF:=λa e M n k=>oA (.nil) (oA i0 (e.t q5 (.nil) λe=>Z e q6 i0 M n k))
def R50_1:RegF:=λa e M n k=>e.g q0 λb=>oA b (callV a s91 [b] M n λc M n=>oA c (v_ext c 0 λd=>v_ext c 1 λf=>oA d (oA f (e.t q2 d λe=>Z e q1 f M n k))))
def R50_2:RegF:=λa e M n k=>e.g q1 λb=>oA b (v_ne b i0 λc=>Z e q3 c M n k)
def R50_3:RegF:=λa e M n k=>e.g q2 λb=>oA b (callV a s92 [b] M n λc M n=>Y e q4 c M n k)
def R50_4:RegF:=λa e M n k=>e.g q2 λb=>e.g q4 λc=>oA b (oA c (oA c (oA b (callV a s95 [b] M n λd M n=>callV a s94 [d] M n λf M n=>callV a s93 [c,f] M n λg M n=>callV a s96 [] M n λh M n=>v_bld [.nil,.nil,.nil,.nil] [(0,1,b),(1,1,c),(2,1,g),(3,1,h)] λl=>bxV 205 l M n λm M n=>oA m (oA i0 (e.t q5 m λe=>Z e q6 i0 M n k))))))
def R50_5:RegF:=λa e M n k=>e.g q1 λb=>oA b (oA (.nil) (oA b (e.t q5 (.nil) λe=>Z e q6 b M n k)))
def S50:List (P × I):=[(s0,q0),(s5,q1),(s4,q2),(s13,q3),(s6,q4),(s2,q5),(s3,q6)]
def G50:F2:=.mk (λa e M n k=>R50_0 a e M n λe M n=>R50_1 a e M n λe M n=>R50_2 a e M n λe M n=>C e q3 (R50_3 a e M n λe M n=>R50_4 a e M n λe M n=>k .r e M n) (R50_5 a e M n λe M n=>k .r e M n)) [.t q5,.t q6] [q0]
def R51_0:RegF:=λa e M n k=>Y e q5 i0 M n k
def R51_2:RegF:=λa e M n k=>e.g q0 λb=>e.g q1 λc=>oA b (v_nck b λd=>v_fa d 3 λf=>L M f λg=>oA c (callV a s97 [g,c,m0] M n λh M n=>Y e q2 h M n k))
def R51_3:RegF:=λa e M n k=>e.g q2 λb=>oA b (v_ne b i0 λc=>Z e q4 c M n k)
def R51_4:RegF:=λa e M n k=>e.g q0 λb=>e.g q1 λc=>oA b (v_nck b λd=>v_fa d 2 λf=>L M f λg=>oA c (callV a s98 [g,c] M n λh M n=>Y e q5 h M n k))
def R51_5:RegF:=λa e M n k=>e.g q2 λb=>oA b (Y e q5 b M n k)
def R51_6:RegF:=λa e M n k=>Y e q5 i1 M n k
def S51:List (P × I):=[(s0,q0),(s1,q1),(s5,q2),(s7,q3),(s15,q4),(s4,q5)]
def G51:F2:=.mk (λa e M n k=>R51_0 a e M n λe M n=>R28_1 a e M n λe M n=>C e q3 (R51_2 a e M n λe M n=>R51_3 a e M n λe M n=>C e q4 (R51_4 a e M n λe M n=>k .r e M n) (R51_5 a e M n λe M n=>k .r e M n)) (R51_6 a e M n λe M n=>k .r e M n)) [.t q5] [q0,q1]
def R52_1:RegF:=λa e M n k=>e.g q0 λb=>e.g q1 λc=>oA b (oA c (v_mul i6 c λd=>v_conv .u64 d λf=>v_kop .shr b f λg=>v_kop .and g i63 λh=>Y e q2 h M n k))
def S52:List (P × I):=[(s0,q0),(s1,q1),(s4,q2)]
def G52:F2:=.mk (λa e M n k=>R35_3 a e M n λe M n=>R52_1 a e M n λe M n=>k .r e M n) [.t q2] [q0,q1]
def R56_0:RegF:=λa e M n k=>e.g q0 λb=>oA b (v_lenS b λc=>Y e q1 c M n k)
def R56_1:RegF:=λa e M n k=>e.g q0 λb=>e.g q1 λc=>oA b (oA c (oA c (v_conv .u64 c λd=>callV a s100 [d] M n λf M n=>callV a s99 [b,i0,c,f] M n λg M n=>k e M n)))
def S56:List (P × I):=[(s0,q0),(s2,q1)]
def G56:F2:=.mk (λa e M n k=>R56_0 a e M n λe M n=>R56_1 a e M n λe M n=>k .n e M n) [] [q0]
def R58_0:RegF:=λa e M n k=>e.g q0 λb=>e.g q1 λc=>(λW=>oA b (v_nck b λd=>v_fa d 2 λf=>L M f λg=>oA c (oA b (v_nck b λh=>v_fa h 2 λl=>L M l λm=>oA c (v_ixS g c 21 λo=>v_fa o 5 λp=>stV M p i1 1 λM=>v_ixS m c 21 λq=>v_fa q 6 λr=>bR (stV M r m0 1 λM=>k e M n) (keptB W M [])))))) M
def S58:List (P × I):=[(s0,q0),(s1,q1)]
def G58:F2:=.mk (λa e M n k=>R58_0 a e M n λe M n=>k .n e M n) [] [q0,q1]
def R61_0:RegF:=λa e M n k=>e.g q0 λb=>e.g q1 λc=>e.g q2 λd=>(λW=>oA b (v_nck b λf=>v_fa f 2 λg=>L M g λh=>oA c (v_ixS h c 21 λl=>ldW M l 21 true λ_ m=>oA b (v_nck b λo=>v_fa o 0 λp=>L M p λq=>oA c (v_ixS q c 8 λr=>ldW M r 8 true λ_ s=>oA d (callV a s105 [m,s,d] M n λt M n=>oA t (v_ext t 0 λu=>v_ext t 1 λw=>alV 102 (rep 9 i0 ++ [bf,i0,i0,i0,(.str []),bf,i0,i0,i0,i0,i0,.nils]) M n λx M n=>stV M x u 21 λM=>oA w (bR (e.t q5 x λe=>Z e q3 w M n k) (keptB W M []))))))))) M
def R61_1:RegF:=λa e M n k=>e.g q3 λb=>Y e q4 b M n k
def R61_2:RegF:=λa e M n k=>e.g q0 λb=>e.g q1 λc=>e.g q5 λd=>(λW=>oA b (v_nck b λf=>v_fa f 2 λg=>L M g λh=>oA c (ldW M d 21 true λ_ l=>v_ixS h c 21 λm=>bR (stV M m l 21 λM=>k e M n) (keptB W M [])))) M
def S61:List (P × I):=[(s0,q0),(s1,q1),(s2,q2),(s7,q3),(s27,q4),(s6,q5)]
def G61:F2:=.mk (λa e M n k=>R61_0 a e M n λe M n=>R61_1 a e M n λe M n=>(λ(j0:K3)=>C e q4 (j0 e M n) (R61_2 a e M n j0)) λe M n=>k .n e M n) [] [q0,q1,q2]
def R62_0:RegF:=λa e M n k=>Y e q7 i0 M n k
def R62_1:RegF:=λa e M n k=>Y e q7 m0 M n k
def R62_2:RegF:=λa e M n k=>e.g q0 λb=>oA b (v_lenS b λc=>oA i0 (e.t q4 c λe=>Z e q2 i0 M n k))
def R62_3:RegF:=λa e M n k=>e.g q2 λb=>e.g q4 λc=>v_lt b c λd=>Z e q5 d M n k
def R62_4:RegF:=λa e M n k=>e.g q2 λb=>oA b (Y e q3 b M n k)
def R62_5:RegF:=λa e M n k=>e.g q1 λb=>e.g q0 λc=>e.g q3 λd=>oA b (oA c (oA d (v_ixS c d 21 λf=>ldW M f 21 true λ_ g=>cvV a b [g] M n λh M n=>Z e q6 h M n k)))
def R62_7:RegF:=λa e M n k=>e.g q3 λb=>oA b (Y e q7 b M n k)
def S62:List (P × I):=[(s0,q0),(s1,q1),(s8,q2),(s5,q3),(s7,q4),(s9,q5),(s16,q6),(s4,q7)]
def G62:F2:=.mk (λa e M n k=>R62_0 a e M n λe M n=>(λ(j0:K3)=>R62_2 a e M n λe M n=>(λ(j1:K3)=>loopK (λa e M n k=>R62_3 a e M n λe M n=>C e q5 (k (.x 0) e M n) (R62_4 a e M n λe M n=>R62_5 a e M n λe M n=>C e q6 (R14_15 a e M n λe M n=>k .n e M n) (R62_7 a e M n λe M n=>k .r e M n))) a e M n (X k j1 0)) j0) λe M n=>R62_1 a e M n λe M n=>k .r e M n) [.t q7] [q0,q1]
def R63_1:RegF:=λa e M n k=>e.g q1 λb=>v_fa b 9 λc=>L M c λd=>Y e q2 d M n k
def S63:List (P × I):=[(s0,q0),(s1,q1),(s2,q2)]
def G63:F2:=.mk (λa e M n k=>R25_0 a e M n λe M n=>R63_1 a e M n λe M n=>k .r e M n) [.t q2] [q0]
def R64_0:RegF:=λa e M n k=>oA i0 (oA bf (e.t q3 i0 λe=>Z e q4 bf M n k))
def R64_1:RegF:=λa e M n k=>e.g q0 λb=>oA b (v_nck b λc=>v_fa c 18 λd=>v_fa d 2 λf=>L M f λg=>v_lt i0 g λh=>Z e q1 h M n k)
def R64_2:RegF:=λa e M n k=>e.g q0 λb=>oA b (v_nck b λc=>v_fa c 8 λd=>L M d λf=>callV a s106 [f,(.fn s107 [] [])] M n λg M n=>Y e q2 g M n k)
def R64_3:RegF:=λa e M n k=>e.g q2 λb=>oA b (oA b (v_le i0 b λc=>oA b (oA c (e.t q3 b λe=>Z e q4 c M n k))))
def R64_4:RegF:=λa e M n k=>e.g q0 λb=>oA b (v_nck b λc=>v_fa c 18 λd=>v_fa d 0 λf=>L M f λg=>oA g (oA bt (e.t q3 g λe=>Z e q4 bt M n k)))
def S64:List (P × I):=[(s0,q0),(s10,q1),(s4,q2),(s2,q3),(s3,q4)]
def G64:F2:=.mk (λa e M n k=>R64_0 a e M n λe M n=>R64_1 a e M n λe M n=>C e q1 (R64_2 a e M n λe M n=>R64_3 a e M n λe M n=>k .r e M n) (R64_4 a e M n λe M n=>k .r e M n)) [.t q3,.t q4] [q0]
def R66_0:RegF:=λa e M n k=>Y e q8 i0 M n k
def R66_1:RegF:=λa e M n k=>e.g q0 λb=>oA b (callV a s109 [b] M n λc M n=>oA c (v_ext c 0 λd=>v_ext c 1 λf=>oA d (oA f (e.t q1 d λe=>Z e q3 f M n k))))
def R66_2:RegF:=λa e M n k=>e.g q3 λb=>oA b (v_not b λc=>Z e q4 c M n k)
def R66_3:RegF:=λa e M n k=>e.g q0 λb=>e.g q1 λc=>oA b (oA c (callV a s110 [b,c] M n λd M n=>oA d (v_ext d 0 λf=>v_ext d 1 λg=>oA f (oA g (e.t q2 f λe=>Z e q5 g M n k)))))
def R66_5:RegF:=λa e M n k=>e.g q0 λb=>e.g q1 λc=>oA b (oA c (callV a s112 [b,c] M n λd M n=>v_not d λf=>Z e q7 f M n k))
def R66_6:RegF:=λa e M n k=>e.g q0 λb=>e.g q1 λc=>oA b (oA c (oA b (v_nck b λd=>v_fa d 1 λf=>L M f λg=>callV a s113 [b,c,g] M n λh M n=>k e M n)))
def R66_7:RegF:=λa e M n k=>e.g q1 λb=>oA b (Y e q8 b M n k)
def R66_8:RegF:=λa e M n k=>e.g q0 λb=>e.g q1 λc=>e.g q2 λd=>oA b (v_nck b λf=>v_fa f 5 λg=>L M g λh=>oA c (oA d (callV a s111 [h,c,d] M n λl M n=>k e M n)))
def R66_9:RegF:=λa e M n k=>e.g q0 λb=>e.g q1 λc=>e.g q2 λd=>(λW=>oA b (v_nck b λf=>v_fa f 2 λg=>L M g λh=>oA c (oA b (v_nck b λl=>v_fa l 2 λm=>L M m λo=>oA c (oA d (v_ixS h c 21 λp=>v_fa p 5 λq=>stV M q i2 1 λM=>v_ixS o c 21 λr=>v_fa r 6 λs=>bR (stV M s d 1 λM=>k e M n) (keptB W M []))))))) M
def R66_10:RegF:=λa e M n k=>Y e q8 m0 M n k
def S66:List (P × I):=[(s0,q0),(s3,q1),(s5,q2),(s4,q3),(s13,q4),(s6,q5),(s20,q6),(s46,q7),(s2,q8)]
def G66:F2:=.mk (λa e M n k=>R66_0 a e M n λe M n=>(λ(j0:K3)=>loopK (λa e M n k=>(λ(j1:K3)=>R66_1 a e M n λe M n=>R66_2 a e M n λe M n=>C e q4 (R66_3 a e M n λe M n=>R23_14 a e M n λe M n=>C e q6 (R66_5 a e M n λe M n=>C e q7 (R66_6 a e M n j1) (R66_7 a e M n λe M n=>k .r e M n)) (R66_8 a e M n λe M n=>R66_9 a e M n j1)) (R66_10 a e M n λe M n=>k .r e M n)) λe M n=>k .n e M n) a e M n (X k j0 0)) λe M n=>k .n e M n) [.t q8] [q0]
def R67_0:RegF:=λa e M n k=>e.g q0 λb=>bxV 102 b M n λc M n=>alV 102 (rep 9 i0 ++ [bf,i0,i0,i0,(.str []),bf,i0,i0,i0,i0,i0,.nils]) M n λd M n=>e.t q2 c λe=>Z e q3 d M n k
def R67_1:RegF:=λa e M n k=>e.g q2 λb=>e.g q1 λc=>v_fa b 17 λd=>L M d λf=>oA c (bslV 3 1 2 [i0,i0] [(0,1,f),(1,1,c)] M n λg M n=>callV a s104 [g] M n λh M n=>v_fa b 17 λl=>stV M l h 1 λM=>k e M n)
def R67_2:RegF:=λa e M n k=>e.g q2 λb=>e.g q3 λc=>ldW M b 21 true λ_ d=>callV a s114 [d] M n λf M n=>stV M c f 21 λM=>k e M n
def S67:List (P × I):=[(s0,q0),(s1,q1),(s2,q2),(s4,q3)]
def G67:F2:=.mk (λa e M n k=>R67_0 a e M n λe M n=>R67_1 a e M n λe M n=>R67_2 a e M n λe M n=>k .r e M n) [.c q3 21 true] [q0,q1]
def R68_0:RegF:=λa e M n k=>e.g q0 λb=>oA b (v_nqP false b λc=>Z e q4 c M n k)
def R68_1:RegF:=λa e M n k=>e.g q0 λb=>e.g q1 λc=>oA b (v_nck b λd=>v_fa d 1 λf=>L M f λg=>oA c (lkuV .nils false g c M λh=>v_lenS h λl=>oA i0 (e.t q5 l λe=>Z e q3 i0 M n k)))
def R68_2:RegF:=λa e M n k=>e.g q3 λb=>e.g q5 λc=>v_lt b c λd=>Z e q6 d M n k
def R68_4:RegF:=λa e M n k=>e.g q0 λb=>e.g q1 λc=>e.g q7 λd=>oA b (v_nck b λf=>v_fa f 1 λg=>L M g λh=>oA c (lkuV .nils false h c M λl=>oA d (v_ixS l d 2 λm=>Y e q8 m M n k)))
def R68_5:RegF:=λa e M n k=>e.g q8 λb=>e.g q2 λc=>oA b (oA b (v_nck b λd=>v_fa d 1 λf=>L M f λg=>oA c (bslV 3 1 2 [i0,i0] [(0,1,g),(1,1,c)] M n λh M n=>callV a s104 [h] M n λl M n=>v_nck b λm=>v_fa m 1 λo=>stV M o l 1 λM=>k e M n)))
def S68:List (P × I):=[(s0,q0),(s1,q1),(s2,q2),(s17,q3),(s9,q4),(s16,q5),(s18,q6),(s6,q7),(s7,q8)]
def G68:F2:=.mk (λa e M n k=>R68_0 a e M n λe M n=>C e q4 (R68_1 a e M n λe M n=>(λ(j0:K3)=>loopK (λa e M n k=>R68_2 a e M n λe M n=>C e q6 (k (.x 0) e M n) (R62_7 a e M n λe M n=>R68_4 a e M n λe M n=>R68_5 a e M n λe M n=>R10_26 a e M n λe M n=>k .n e M n)) a e M n (X k j0 0)) λe M n=>k .n e M n) (k .r e M n)) [] [q0,q1,q2]
def R69_0:RegF:=λa e M n k=>alV 66 [i0,i0,i0,i0,i0,i0,i0,(.str []),(.str [])] M n λb M n=>Z e q2 b M n k
def R69_1:RegF:=λa e M n k=>e.g q0 λb=>e.g q1 λc=>(λW=>oA b (v_nck b λd=>v_fa d 3 λf=>L M f λg=>oA c (v_ixS g c 1 λh=>L M h λl=>oA b (v_nck b λm=>v_fa m 2 λo=>L M o λp=>oA c (v_ixS p c 21 λq=>v_fa q 7 λr=>L M r λs=>oA l (oA s (bR (e.t q4 l λe=>Z e q3 s M n k) (keptB W M [])))))))) M
def R69_2:RegF:=λa e M n k=>e.g q3 λb=>e.g q4 λc=>oA b (oA c (v_lenS c λd=>v_lt b d λf=>Y e q5 f M n k))
def R69_3:RegF:=λa e M n k=>e.g q0 λb=>e.g q1 λc=>oA b (oA c (callV a s115 [b,c] M n λd M n=>Y e q6 d M n k))
def R69_4:RegF:=λa e M n k=>e.g q2 λb=>v_bld [i0,i0,i0,(.str []),(.str [])] [(0,1,i15)] λc=>v_bld [i0,i0,i0,i0,i0,i0,i0,(.str []),(.str [])] [(0,1,i10),(4,5,c)] λd=>stV M b d 9 λM=>k e M n
def R69_5:RegF:=λa e M n k=>e.g q2 λb=>v_bld [i0,i0,i0,i0,i0,i0,i0,(.str []),(.str [])] [(0,1,i4)] λc=>stV M b c 9 λM=>k e M n
def R69_6:RegF:=λa e M n k=>e.g q4 λb=>e.g q3 λc=>e.g q2 λd=>oA b (oA c (v_ixS b c 9 λf=>ldW M f 9 true λ_ g=>stV M d g 9 λM=>k e M n))
def S69:List (P × I):=[(s0,q0),(s1,q1),(s4,q2),(s6,q3),(s5,q4),(s22,q5),(s31,q6)]
def G69:F2:=.mk (λa e M n k=>R69_0 a e M n λe M n=>R69_1 a e M n λe M n=>R69_2 a e M n λe M n=>C e q5 (R69_3 a e M n λe M n=>C e q6 (R69_4 a e M n λe M n=>k .r e M n) (R69_5 a e M n λe M n=>k .r e M n)) (R69_6 a e M n λe M n=>k .r e M n)) [.c q2 9 true] [q0,q1]
def R70_0:RegF:=λa e M n k=>e.g q0 λb=>e.g q1 λc=>oA b (v_nck b λd=>v_fa d 2 λf=>L M f λg=>oA c (v_ixS g c 21 λh=>v_fa h 19 λl=>L M l λm=>v_le i0 m λo=>Z e q4 o M n k))
def R70_1:RegF:=λa e M n k=>e.g q0 λb=>e.g q1 λc=>oA b (oA c (callV a s69 [b,c] M n λd M n=>alV 66 [i0,i0,i0,i0,i0,i0,i0,(.str []),(.str [])] M n λf M n=>stV M f d 9 λM=>Z e q3 f M n k))
def R70_2:RegF:=λa e M n k=>oA (.nilf) (e.t q15 (.nilf) λe=>k e M n)
def R70_3:RegF:=λa e M n k=>e.g q15 λb=>e.g q1 λc=>e.g q3 λd=>oA b (oA c (ldW M d 9 true λ_ f=>cvV a b [c,f] M n λg M n=>k e M n))
def R70_4:RegF:=λa e M n k=>e.g q3 λb=>v_fa b 0 λc=>L M c λd=>Z e q2 d M n k
def R70_5:RegF:=λa e M n k=>e.g q2 λb=>v_eq b i6 λc=>Y e q5 c M n k
def R70_6:RegF:=λa e M n k=>e.g q2 λb=>v_eq b i1 λc=>Y e q6 c M n k
def R70_7:RegF:=λa e M n k=>e.g q2 λb=>v_eq b i5 λc=>Y e q7 c M n k
def R70_8:RegF:=λa e M n k=>e.g q2 λb=>v_eq b i4 λc=>Y e q8 c M n k
def R70_9:RegF:=λa e M n k=>e.g q2 λb=>v_eq b i2 λc=>Y e q9 c M n k
def R70_10:RegF:=λa e M n k=>e.g q2 λb=>v_eq b i3 λc=>Y e q10 c M n k
def R70_11:RegF:=λa e M n k=>e.g q2 λb=>v_eq b i7 λc=>Y e q11 c M n k
def R70_12:RegF:=λa e M n k=>e.g q2 λb=>v_eq b i8 λc=>Y e q12 c M n k
def R70_13:RegF:=λa e M n k=>e.g q2 λb=>v_eq b i9 λc=>Y e q13 c M n k
def R70_14:RegF:=λa e M n k=>e.g q2 λb=>v_eq b i10 λc=>Y e q14 c M n k
def R70_15:RegF:=λa e M n k=>e.g q0 λb=>oA b (v_mkf s127 [b] [] λc=>Y e q15 c M n k)
def R70_16:RegF:=λa e M n k=>e.g q0 λb=>oA b (v_mkf s126 [b] [] λc=>Y e q15 c M n k)
def R70_17:RegF:=λa e M n k=>e.g q0 λb=>oA b (v_mkf s125 [b] [] λc=>Y e q15 c M n k)
def R70_18:RegF:=λa e M n k=>e.g q0 λb=>oA b (v_mkf s124 [b] [] λc=>Y e q15 c M n k)
def R70_19:RegF:=λa e M n k=>e.g q0 λb=>oA b (v_mkf s123 [b] [] λc=>Y e q15 c M n k)
def R70_20:RegF:=λa e M n k=>e.g q0 λb=>oA b (v_mkf s122 [b] [] λc=>Y e q15 c M n k)
def R70_21:RegF:=λa e M n k=>e.g q0 λb=>oA b (v_mkf s121 [b] [] λc=>Y e q15 c M n k)
def R70_22:RegF:=λa e M n k=>e.g q0 λb=>oA b (v_mkf s120 [b] [] λc=>Y e q15 c M n k)
def R70_23:RegF:=λa e M n k=>e.g q0 λb=>oA b (v_mkf s119 [b] [] λc=>Y e q15 c M n k)
def R70_24:RegF:=λa e M n k=>e.g q0 λb=>oA b (v_mkf s118 [b] [] λc=>Y e q15 c M n k)
def R70_25:RegF:=λa e M n k=>e.g q0 λb=>oA b (v_mkf s117 [b] [] λc=>Y e q15 c M n k)
def R70_26:RegF:=λa e M n k=>e.g q0 λb=>e.g q1 λc=>oA b (oA c (callV a s116 [b,c] M n λd M n=>k e M n))
def S70:List (P × I):=[(s0,q0),(s1,q1),(s22,q2),(s4,q3),(s14,q4),(s25,q5),(s29,q6),(s33,q7),(s37,q8),(s41,q9),(s45,q10),(s49,q11),(s53,q12),(s57,q13),(s61,q14),(s5,q15)]
def G70:F2:=.mk (λa e M n k=>R70_0 a e M n λe M n=>C e q4 (R70_1 a e M n λe M n=>R70_2 a e M n λe M n=>(λ(j0:K3)=>R70_4 a e M n λe M n=>(λ(j1:K3)=>R70_5 a e M n λe M n=>(λ(j2:K3)=>C e q5 (R70_6 a e M n λe M n=>(λ(j3:K3)=>C e q6 (R70_7 a e M n λe M n=>(λ(j4:K3)=>C e q7 (R70_8 a e M n λe M n=>(λ(j5:K3)=>C e q8 (R70_9 a e M n λe M n=>(λ(j6:K3)=>C e q9 (R70_10 a e M n λe M n=>(λ(j7:K3)=>C e q10 (R70_11 a e M n λe M n=>(λ(j8:K3)=>C e q11 (R70_12 a e M n λe M n=>(λ(j9:K3)=>C e q12 (R70_13 a e M n λe M n=>(λ(j10:K3)=>C e q13 (R70_14 a e M n λe M n=>(λ(j11:K3)=>C e q14 (R70_15 a e M n j11) (R70_16 a e M n j11)) j10) (R70_17 a e M n j10)) j9) (R70_18 a e M n j9)) j8) (R70_19 a e M n j8)) j7) (R70_20 a e M n j7)) j6) (R70_21 a e M n j6)) j5) (R70_22 a e M n j5)) j4) (R70_23 a e M n j4)) j3) (R70_24 a e M n j3)) j2) (R70_25 a e M n j2)) j1) j0) λe M n=>R70_3 a e M n λe M n=>k .n e M n) (R70_26 a e M n λe M n=>k .r e M n)) [] [q0,q1]
def R71_0:RegF:=λa e M n k=>e.g q0 λb=>bxV 33 b M n λc M n=>Z e q2 c M n k
def R71_1:RegF:=λa e M n k=>e.g q2 λb=>e.g q1 λc=>L M b λd=>v_nck d λf=>v_fa f 2 λg=>L M g λh=>oA c (v_ixS h c 21 λl=>ldW M l 21 true λ_ m=>alV 102 (rep 9 i0 ++ [bf,i0,i0,i0,(.str []),bf,i0,i0,i0,i0,i0,.nils]) M n λo M n=>stV M o m 21 λM=>Z e q3 o M n k)
def R71_2:RegF:=λa e M n k=>e.g q3 λb=>e.g q2 λc=>e.g q1 λd=>(λW=>v_fa b 14 λf=>L M f λg=>oA g (gP g M n (v_fa b 17) λh M n=>gL g M n h λl M n=>gL g M n c λm M n=>gP g M n (v_nck m) λo M n=>gP g M n (v_fa o 0) λp M n=>gL g M n p λq M n=>gM g M n d λr M n=>gP g M n (v_ixS q r 8) λs M n=>gP g M n (v_fa s 4) λt M n=>gL g M n t λu M n=>gP g M n (v_le u l) λw M n=>v_pick g w bf λx=>oA x (hL x M n c λy M n=>hP x M n (v_nck y) λz M n=>hP x M n (v_fa z 5) λA M n=>hL x M n A λB M n=>hM x M n d λC M n=>hN x M n (λj=>callV a s30 [B,C] M n λv M n=>j v M n) λD M n=>hP x M n (v_mkf s129 [] [c]) λE M n=>hN x M n (λj=>callV a s128 [D,E] M n λv M n=>j v M n) λF M n=>v_pick x bt F λG=>oA G (bR (Z e q4 G M n k) (keptB W M []))))) M
def R71_3:RegF:=λa e M n k=>e.g q4 λb=>e.g q3 λc=>oA b (oA b (gP b M n (v_fa c 9) λd M n=>gL b M n d λf M n=>gP b M n (v_not f) λg M n=>v_pick b g bf λh=>Z e q5 h M n k))
def R71_4:RegF:=λa e M n k=>e.g q2 λb=>e.g q1 λc=>(λW=>L M b λd=>oA c (L M b λf=>v_nck f λg=>v_fa g 1 λh=>L M h λl=>v_add l i1 λm=>callV a s113 [d,c,m] M n λo M n=>bR (k e M n) (keptB W M []))) M
def S71:List (P × I):=[(s0,q0),(s1,q1),(s2,q2),(s4,q3),(s5,q4),(s43,q5)]
def G71:F2:=.mk (λa e M n k=>R71_0 a e M n λe M n=>R71_1 a e M n λe M n=>R71_2 a e M n λe M n=>R71_3 a e M n λe M n=>(λ(j0:K3)=>C e q5 (j0 e M n) (R71_4 a e M n j0)) λe M n=>k .n e M n) [] [q0,q1]
def R72_0:RegF:=λa e M n k=>Y e q1 i0 M n k
def R72_1:RegF:=λa e M n k=>e.g q0 λb=>oA b (v_max b i0 λc=>v_min c i1099511627776 λd=>Y e q1 d M n k)
def S72:List (P × I):=[(s0,q0),(s2,q1)]
def G72:F2:=.mk (λa e M n k=>R72_0 a e M n λe M n=>R72_1 a e M n λe M n=>k .r e M n) [.t q1] [q0]
def G73:F2:=.spec (ownerS)
def R74_2:RegF:=λa e M n k=>e.g q0 λb=>oA b (v_nck b λc=>v_fa c 0 λd=>L M d λf=>v_lenS f λg=>Y e q2 g M n k)
def S74:List (P × I):=[(s0,q0),(s4,q1),(s2,q2)]
def G74:F2:=.mk (λa e M n k=>R35_3 a e M n λe M n=>R15_1 a e M n λe M n=>C e q1 (R74_2 a e M n λe M n=>k .r e M n) (R35_3 a e M n λe M n=>k .r e M n)) [.t q2] [q0]
def R75_2:RegF:=λa e M n k=>e.g q0 λb=>bslV 166 2 0 [] [] M n λc M n=>oA b (appV 166 2 16 c b M n λd M n=>Y e q2 d M n k)
def S75:List (P × I):=[(s0,q0),(s4,q1),(s2,q2)]
def G75:F2:=.mk (λa e M n k=>R15_0 a e M n λe M n=>R32_1 a e M n λe M n=>C e q1 (R75_2 a e M n λe M n=>k .r e M n) (R15_0 a e M n λe M n=>k .r e M n)) [.t q2] [q0]
def R76_0:RegF:=λa e M n k=>e.g q0 λb=>bxV 28 b M n λc M n=>oA (.nil) (oA i0 (e.t q2 c λe=>e.t q5 (.nil) λe=>Z e q6 i0 M n k))
def R76_1:RegF:=λa e M n k=>e.g q2 λb=>ldW M b 6 true λ_ c=>callV a s18 [c] M n λd M n=>oA d (v_ext d 0 λf=>v_ext d 1 λg=>oA f (oA g (e.t q4 f λe=>Z e q1 g M n k)))
def R76_3:RegF:=λa e M n k=>e.g q4 λb=>oA b (v_bld [.nil,.nils] [(0,1,b)] λc=>bxV 172 c M n λd M n=>oA d (oA i0 (e.t q5 d λe=>Z e q6 i0 M n k)))
def S76:List (P × I):=[(s0,q0),(s5,q1),(s1,q2),(s12,q3),(s4,q4),(s2,q5),(s3,q6)]
def G76:F2:=.mk (λa e M n k=>R76_0 a e M n λe M n=>R76_1 a e M n λe M n=>R50_2 a e M n λe M n=>C e q3 (R76_3 a e M n λe M n=>k .r e M n) (R50_5 a e M n λe M n=>k .r e M n)) [.t q5,.t q6] [q0]
def R77_0:RegF:=λa e M n k=>Y e q9 .nils M n k
def R77_1:RegF:=λa e M n k=>e.g q0 λb=>oA b (v_nqP false b λc=>Z e q5 c M n k)
def R77_2:RegF:=λa e M n k=>Y e q3 .nils M n k
def R77_3:RegF:=λa e M n k=>e.g q0 λb=>e.g q3 λc=>oA b (oA b (v_nck b λd=>v_fa d 1 λf=>L M f λg=>oA c (appV 36 2 16 g c M n λh M n=>v_nck b λl=>v_fa l 1 λm=>stV M m h 1 λM=>k e M n)))
def R77_4:RegF:=λa e M n k=>e.g q3 λb=>oA b (Y e q9 b M n k)
def R77_5:RegF:=λa e M n k=>e.g q2 λb=>oA b (v_min b i4096 λc=>v_max c i0 λd=>oA i0 (e.t q6 d λe=>Z e q4 i0 M n k))
def R77_6:RegF:=λa e M n k=>e.g q4 λb=>e.g q6 λc=>v_lt b c λd=>Z e q7 d M n k
def R77_7:RegF:=λa e M n k=>e.g q0 λb=>oA b (v_nck b λc=>v_fa c 0 λd=>L M d λf=>callV a s132 [f] M n λg M n=>alV 3 [i0] M n λh M n=>stV M h g 1 λM=>Z e q8 h M n k)
def R77_8:RegF:=λa e M n k=>e.g q3 λb=>e.g q0 λc=>e.g q1 λd=>e.g q8 λf=>(λW=>oA b (oA c (v_nck c λg=>v_fa g 0 λh=>ldV M h 1 false λl m=>oA d (v_mkf s134 [] [f] λo=>callV a s133 [d,o] M n λp M n=>callV a s10 [m,p] M n λq M n=>bslV 36 2 1 [i0,bf] [(0,2,q)] M n λr M n=>appV 36 2 16 b r M n λs M n=>oA s (bR (Z e q3 s M n k) (keptB W M (l :: []))))))) M
def R77_9:RegF:=λa e M n k=>e.g q4 λb=>v_add b i1 λc=>Y e q4 c M n k
def R77_10:RegF:=λa e M n k=>Y e q9 .nils M n k
def S77:List (P × I):=[(s0,q0),(s1,q1),(s2,q2),(s7,q3),(s14,q4),(s10,q5),(s13,q6),(s15,q7),(s8,q8),(s6,q9)]
def G77:F2:=.mk (λa e M n k=>R77_0 a e M n λe M n=>R77_1 a e M n λe M n=>C e q5 (R77_2 a e M n λe M n=>(λ(j0:K3)=>R77_5 a e M n λe M n=>(λ(j1:K3)=>loopK (λa e M n k=>R77_6 a e M n λe M n=>C e q7 (k (.x 0) e M n) (R77_7 a e M n λe M n=>R77_8 a e M n λe M n=>R77_9 a e M n λe M n=>k .n e M n)) a e M n (X k j1 0)) j0) λe M n=>R77_3 a e M n λe M n=>R77_4 a e M n λe M n=>k .r e M n) (R77_10 a e M n λe M n=>k .r e M n)) [.t q9] [q0,q1,q2]
def R78_2:RegF:=λa e M n k=>e.g q0 λb=>oA b (v_nck b λc=>v_fa c 11 λd=>L M d λf=>callV a s135 [f] M n λg M n=>Y e q2 g M n k)
def S78:List (P × I):=[(s0,q0),(s4,q1),(s2,q2)]
def G78:F2:=.mk (λa e M n k=>R15_0 a e M n λe M n=>R15_1 a e M n λe M n=>C e q1 (R78_2 a e M n λe M n=>k .r e M n) (R15_0 a e M n λe M n=>k .r e M n)) [.t q2] [q0]
def R79_0:RegF:=λa e M n k=>Y e q8 bf M n k
def R79_1:RegF:=λa e M n k=>Y e q8 bt M n k
def R79_2:RegF:=λa e M n k=>e.g q2 λb=>e.g q0 λc=>oA b (oA c (v_lenS c λd=>v_min b d λf=>oA i0 (e.t q4 f λe=>Z e q3 i0 M n k)))
def R79_3:RegF:=λa e M n k=>e.g q3 λb=>e.g q4 λc=>v_lt b c λd=>Z e q5 d M n k
def R79_4:RegF:=λa e M n k=>e.g q3 λb=>oA b (Y e q6 b M n k)
def R79_5:RegF:=λa e M n k=>e.g q0 λb=>e.g q1 λc=>e.g q2 λd=>e.g q6 λf=>oA b (oA c (oA d (oA f (callV a s137 [b,c,d,f] M n λg M n=>oA f (callV a s136 [g,f] M n λh M n=>Z e q7 h M n k)))))
def S79:List (P × I):=[(s0,q0),(s1,q1),(s2,q2),(s12,q3),(s11,q4),(s13,q5),(s7,q6),(s21,q7),(s6,q8)]
def G79:F2:=.mk (λa e M n k=>R79_0 a e M n λe M n=>(λ(j0:K3)=>R79_2 a e M n λe M n=>(λ(j1:K3)=>loopK (λa e M n k=>R79_3 a e M n λe M n=>C e q5 (k (.x 0) e M n) (R79_4 a e M n λe M n=>R79_5 a e M n λe M n=>C e q7 (R10_26 a e M n λe M n=>k .n e M n) (R79_0 a e M n λe M n=>k .r e M n))) a e M n (X k j1 0)) j0) λe M n=>R79_1 a e M n λe M n=>k .r e M n) [.t q8] [q0,q1,q2]
def R80_0:RegF:=λa e M n k=>e.g q0 λb=>bxV 47 b M n λc M n=>oA .nils (e.t q4 c λe=>Z e q10 .nils M n k)
def R80_2:RegF:=λa e M n k=>e.g q3 λb=>oA b (Y e q10 b M n k)
def R80_3:RegF:=λa e M n k=>e.g q4 λb=>v_fa b 1 λc=>L M c λd=>v_lenS d λf=>oA i0 (e.t q7 d λe=>e.t q5 f λe=>Z e q1 i0 M n k)
def R80_4:RegF:=λa e M n k=>e.g q1 λb=>e.g q5 λc=>v_lt b c λd=>Z e q6 d M n k
def R80_5:RegF:=λa e M n k=>e.g q7 λb=>e.g q1 λc=>v_ixS b c 21 λd=>ldW M d 21 true λ_ f=>alV 102 (rep 9 i0 ++ [bf,i0,i0,i0,(.str []),bf,i0,i0,i0,i0,i0,.nils]) M n λg M n=>stV M g f 21 λM=>Z e q2 g M n k
def R80_6:RegF:=λa e M n k=>Y e q9 m0 M n k
def R80_7:RegF:=λa e M n k=>e.g q3 λb=>e.g q9 λc=>oA b (oA c (bslV 3 1 1 [i0] [(0,1,c)] M n λd M n=>appV 3 1 8 b d M n λf M n=>Y e q3 f M n k))
def R80_9:RegF:=λa e M n k=>e.g q2 λb=>v_fa b 5 λc=>L M c λd=>v_eq d i2 λf=>Z e q8 f M n k
def R80_10:RegF:=λa e M n k=>e.g q2 λb=>v_fa b 6 λc=>L M c λd=>Y e q9 d M n k
def S80:List (P × I):=[(s0,q0),(s10,q1),(s5,q2),(s3,q3),(s1,q4),(s9,q5),(s11,q6),(s8,q7),(s16,q8),(s6,q9),(s2,q10)]
def G80:F2:=.mk (λa e M n k=>R80_0 a e M n λe M n=>R30_0 a e M n λe M n=>(λ(j0:K3)=>R80_3 a e M n λe M n=>(λ(j1:K3)=>loopK (λa e M n k=>R80_4 a e M n λe M n=>C e q6 (k (.x 0) e M n) (R80_5 a e M n λe M n=>R80_6 a e M n λe M n=>(λ(j2:K3)=>R80_9 a e M n λe M n=>(λ(j3:K3)=>C e q8 (j3 e M n) (R80_10 a e M n j3)) j2) λe M n=>R80_7 a e M n λe M n=>R28_9 a e M n λe M n=>k .n e M n)) a e M n (X k j1 0)) j0) λe M n=>R80_2 a e M n λe M n=>k .r e M n) [.t q10] [q0]
def R81_0:RegF:=λa e M n k=>Y e q3 bf M n k
def R81_1:RegF:=λa e M n k=>e.g q0 λb=>e.g q1 λc=>e.g q2 λd=>oA b (oA c (v_le c b λf=>oA f (gM f M n b λg M n=>gM f M n d λh M n=>gP f M n (v_le g h) λl M n=>v_pick f l bf λm=>Y e q3 m M n k)))
def S81:List (P × I):=[(s0,q0),(s1,q1),(s2,q2),(s6,q3)]
def G81:F2:=.mk (λa e M n k=>R81_0 a e M n λe M n=>R81_1 a e M n λe M n=>k .r e M n) [.t q3] [q0,q1,q2]
def R82_0:RegF:=λa e M n k=>e.g q0 λb=>e.g q1 λc=>bxV 28 b M n λd M n=>bxV 32 c M n λf M n=>oA bf (e.t q3 d λe=>e.t q2 f λe=>Z e q7 bf M n k)
def R82_1:RegF:=λa e M n k=>e.g q2 λb=>v_fa b 0 λc=>L M c λd=>v_eq d i2 λf=>oA f (gP f M n (v_fa b 1) λg M n=>gL f M n g λh M n=>gN f M n (λj=>callV a s81 [h,i0,i63] M n λv M n=>j v M n) λl M n=>v_pick f l bf λm=>oA m (hP m M n (v_fa b 0) λo M n=>hL m M n o λp M n=>hP m M n (v_eq p i1) λq M n=>hM m M n q λr M n=>gP r M n (v_fa b 1) λs M n=>gL r M n s λt M n=>gP r M n (v_eq t i0) λu M n=>hP m M n (v_pick r u bf) λw M n=>v_pick m bt w λx=>Y e q4 x M n k))
def R82_2:RegF:=λa e M n k=>e.g q2 λb=>v_fa b 2 λc=>L M c λd=>callV a s81 [d,i1,i1000000] M n λf M n=>oA f (gP f M n (v_fa b 3) λg M n=>gL f M n g λh M n=>gP f M n (v_fa b 2) λl M n=>gL f M n l λm M n=>gN f M n (λj=>callV a s81 [h,i1,m] M n λv M n=>j v M n) λo M n=>v_pick f o bf λp=>oA p (gP p M n (v_fa b 4) λq M n=>gL p M n q λr M n=>gP p M n (v_fa b 3) λs M n=>gL p M n s λt M n=>gN p M n (λj=>callV a s81 [r,i1,t] M n λv M n=>j v M n) λu M n=>v_pick p u bf λw=>Y e q5 w M n k))
def R82_3:RegF:=λa e M n k=>e.g q2 λb=>e.g q3 λc=>v_fa b 6 λd=>L M d λf=>v_lenS f λg=>v_le g i6 λh=>oA h (gP h M n (v_fa b 6) λl M n=>gL h M n l λm M n=>gP h M n (v_mkf s138 [] [c]) λo M n=>gN h M n (λj=>callV a s83 [m,o] M n λv M n=>j v M n) λp M n=>gP h M n (v_not p) λq M n=>v_pick h q bf λr=>Y e q6 r M n k)
def R82_4:RegF:=λa e M n k=>e.g q4 λb=>e.g q5 λc=>e.g q6 λd=>e.g q2 λf=>e.g q3 λg=>oA b (oA b (gM b M n c λh M n=>v_pick b h bf λl=>oA l (gM l M n d λm M n=>v_pick l m bf λo=>oA o (gP o M n (v_fa f 5) λp M n=>gL o M n p λq M n=>gP o M n (v_fa g 3) λr M n=>gL o M n r λs M n=>gP o M n (v_lenS s) λt M n=>gP o M n (v_sub t i1) λu M n=>gN o M n (λj=>callV a s81 [q,m0,u] M n λv M n=>j v M n) λw M n=>v_pick o w bf λx=>oA x (gP x M n (v_fa f 7) λy M n=>gL x M n y λz M n=>gP x M n (v_lenS z) λA M n=>gP x M n (v_le A i40) λB M n=>v_pick x B bf λC=>Y e q7 C M n k)))))
def S82:List (P × I):=[(s0,q0),(s1,q1),(s3,q2),(s2,q3),(s5,q4),(s6,q5),(s7,q6),(s4,q7)]
def G82:F2:=.mk (λa e M n k=>R82_0 a e M n λe M n=>R82_1 a e M n λe M n=>R82_2 a e M n λe M n=>R82_3 a e M n λe M n=>R82_4 a e M n λe M n=>k .r e M n) [.t q7] [q0,q1]
def R83_1:RegF:=λa e M n k=>e.g q0 λb=>e.g q1 λc=>oA b (oA c (callV a s139 [b,c] M n λd M n=>v_le i0 d λf=>Y e q2 f M n k))
def S83:List (P × I):=[(s0,q0),(s1,q1),(s4,q2)]
def G83:F2:=.mk (λa e M n k=>R24_0 a e M n λe M n=>R83_1 a e M n λe M n=>k .r e M n) [.t q2] [q0,q1]
def R85_0:RegF:=λa e M n k=>e.g q1 λb=>bxV 99 b M n λc M n=>alV 102 (rep 9 i0 ++ [bf,i0,i0,i0,(.str []),bf,i0,i0,i0,i0,i0,.nils]) M n λd M n=>e.t q4 c λe=>Z e q3 d M n k
def R85_1:RegF:=λa e M n k=>e.g q0 λb=>e.g q4 λc=>e.g q2 λd=>e.g q3 λf=>oA b (ldW M c 3 true λ_ g=>oA d (v_bld (rep 9 i0 ++ [bf,i0,i0,i0,(.str []),bf,i0,i0,i0,i0,i0,.nils]) [(0,1,b),(1,1,m0),(18,1,m0),(6,1,m0),(19,1,m0),(2,3,g),(5,1,d)] λh=>stV M f h 21 λM=>k e M n))
def S85:List (P × I):=[(s0,q0),(s1,q1),(s2,q2),(s6,q3),(s4,q4)]
def G85:F2:=.mk (λa e M n k=>R85_0 a e M n λe M n=>R85_1 a e M n λe M n=>k .r e M n) [.c q3 21 true] [q0,q1,q2]
def R86_0:RegF:=λa e M n k=>e.g q0 λb=>bxV 66 b M n λc M n=>oA bf (e.t q1 c λe=>Z e q6 bf M n k)
def R86_1:RegF:=λa e M n k=>e.g q1 λb=>v_fa b 0 λc=>L M c λd=>callV a s140 [d] M n λf M n=>Y e q2 f M n k
def R86_2:RegF:=λa e M n k=>e.g q2 λb=>oA b (v_nqF false b λc=>Z e q4 c M n k)
def R86_3:RegF:=λa e M n k=>e.g q2 λb=>e.g q1 λc=>oA b (ldW M c 9 true λ_ d=>cvV a b [d] M n λf M n=>oA f (v_ext f 0 λg=>v_ext f 1 λh=>alV 66 [i0,i0,i0,i0,i0,i0,i0,(.str []),(.str [])] M n λl M n=>stV M l g 9 λM=>oA h (e.t q3 l λe=>Z e q5 h M n k)))
def R86_4:RegF:=λa e M n k=>e.g q1 λb=>e.g q3 λc=>v_fa b 0 λd=>L M d λf=>v_fa c 0 λg=>stV M g f 1 λM=>k e M n
def R86_5:RegF:=λa e M n k=>e.g q5 λb=>e.g q3 λc=>e.g q1 λd=>oA b (oA b (gdK b true .off M n (λj=>ldW M c 9 true λ_ v=>j v M n) λf M n=>gdK b true .off M n (λj=>ldW M d 9 true λ_ v=>j v M n) λg M n=>gP b M n (v_aeq false [(0,.i),(1,.i),(2,.i),(3,.i),(4,.i),(5,.i),(6,.i),(7,.s),(8,.s)] f g) λh M n=>v_pick b h bf λl=>Y e q6 l M n k))
def S86:List (P × I):=[(s0,q0),(s1,q1),(s3,q2),(s4,q3),(s10,q4),(s5,q5),(s2,q6)]
def G86:F2:=.mk (λa e M n k=>R86_0 a e M n λe M n=>R86_1 a e M n λe M n=>R86_2 a e M n λe M n=>C e q4 (R86_3 a e M n λe M n=>R86_4 a e M n λe M n=>R86_5 a e M n λe M n=>k .r e M n) (R35_0 a e M n λe M n=>k .r e M n)) [.t q6] [q0]
def R87_1:RegF:=λa e M n k=>e.g q0 λb=>e.g q1 λc=>oA b (oA c (callV a s141 [b,c] M n λd M n=>v_le i0 d λf=>Y e q2 f M n k))
def S87:List (P × I):=[(s0,q0),(s1,q1),(s4,q2)]
def G87:F2:=.mk (λa e M n k=>R24_0 a e M n λe M n=>R87_1 a e M n λe M n=>k .r e M n) [.t q2] [q0,q1]
def R88_0:RegF:=λa e M n k=>e.g q0 λb=>bxV 175 b M n λc M n=>oA bf (e.t q1 c λe=>Z e q2 bf M n k)
def R88_1:RegF:=λa e M n k=>e.g q1 λb=>ldW M b 2 true λ_ c=>callV a s89 [c] M n λd M n=>v_not d λf=>Y e q2 f M n k
def S88:List (P × I):=[(s0,q0),(s1,q1),(s2,q2)]
def G88:F2:=.mk (λa e M n k=>R88_0 a e M n λe M n=>R88_1 a e M n λe M n=>k .r e M n) [.t q2] [q0]
def R89_1:RegF:=λa e M n k=>e.g q1 λb=>v_fa b 0 λc=>L M c λd=>v_le i1 d λf=>oA f (gP f M n (v_fa b 0) λg M n=>gL f M n g λh M n=>gP f M n (v_le h i100) λl M n=>v_pick f l bf λm=>oA m (gP m M n (v_fa b 1) λo M n=>gL m M n o λp M n=>gP m M n (v_le i1 p) λq M n=>v_pick m q bf λr=>oA r (gP r M n (v_fa b 1) λs M n=>gL r M n s λt M n=>gP r M n (v_le t i1000) λu M n=>v_pick r u bf λw=>Y e q2 w M n k)))
def S89:List (P × I):=[(s0,q0),(s1,q1),(s2,q2)]
def G89:F2:=.mk (λa e M n k=>R88_0 a e M n λe M n=>R89_1 a e M n λe M n=>k .r e M n) [.t q2] [q0]
def R90_2:RegF:=λa e M n k=>e.g q0 λb=>bslV 175 2 0 [] [] M n λc M n=>oA b (appV 175 2 16 c b M n λd M n=>Y e q2 d M n k)
def S90:List (P × I):=[(s0,q0),(s4,q1),(s2,q2)]
def G90:F2:=.mk (λa e M n k=>R15_0 a e M n λe M n=>R32_1 a e M n λe M n=>C e q1 (R90_2 a e M n λe M n=>k .r e M n) (R15_0 a e M n λe M n=>k .r e M n)) [.t q2] [q0]
def R91_1:RegF:=λa e M n k=>e.g q0 λb=>oA b (v_lt b i1 λc=>oA c (hM c M n b λd M n=>hP c M n (v_lt i64 d) λf M n=>v_pick c bt f λg=>Z e q1 g M n k))
def R91_2:RegF:=λa e M n k=>e.g q0 λb=>(λW=>oA b (mksV 310 64 64 (rep 64 (.int .u8 (.ofNat 0))) b b M n λc M n=>oA b (mksV 3 1 8 [i0] b b M n λd M n=>v_bld [.nils,.nils,.nils,i0] [(0,1,c),(1,1,d)] λf=>bxV 236 f M n λg M n=>oA g (oA i0 (bR (e.t q2 g λe=>Z e q3 i0 M n k) (keptB W M [])))))) M
def S91:List (P × I):=[(s0,q0),(s9,q1),(s2,q2),(s3,q3)]
def G91:F2:=.mk (λa e M n k=>R44_0 a e M n λe M n=>R91_1 a e M n λe M n=>C e q1 (R91_2 a e M n λe M n=>k .r e M n) (R44_3 a e M n λe M n=>k .r e M n)) [.t q2,.t q3] [q0]
def R92_1:RegF:=λa e M n k=>e.g q0 λb=>oA b (callV a s142 [b] M n λc M n=>Y e q1 c M n k)
def R92_2:RegF:=λa e M n k=>e.g q1 λb=>oA b (oA b (callV a s143 [b] M n λc M n=>v_bld [.nil,.nil] [(0,1,b),(1,1,c)] λd=>bxV 242 d M n λf M n=>Y e q2 f M n k))
def S92:List (P × I):=[(s0,q0),(s3,q1),(s2,q2)]
def G92:F2:=.mk (λa e M n k=>R45_0 a e M n λe M n=>R92_1 a e M n λe M n=>R92_2 a e M n λe M n=>k .r e M n) [.t q2] [q0]
def R93_1:RegF:=λa e M n k=>e.g q0 λb=>e.g q1 λc=>oA b (oA c (mkmV M n λd M n=>v_bld [.nil,.nil,.nilm] [(0,1,b),(1,1,c),(2,1,d)] λf=>bxV 245 f M n λg M n=>Y e q2 g M n k))
def S93:List (P × I):=[(s0,q0),(s1,q1),(s4,q2)]
def G93:F2:=.mk (λa e M n k=>R45_0 a e M n λe M n=>R93_1 a e M n λe M n=>k .r e M n) [.t q2] [q0,q1]
def R94_0:RegF:=λa e M n k=>oA (.nil) (e.t q1 (.nil) λe=>k e M n)
def R94_1:RegF:=λa e M n k=>e.g q0 λb=>oA b (v_bld [.nil,.nil,.nil,.nil,.nil] [(0,1,b)] λc=>bxV 249 c M n λd M n=>Y e q1 d M n k)
def S94:List (P × I):=[(s0,q0),(s2,q1)]
def G94:F2:=.mk (λa e M n k=>R94_0 a e M n λe M n=>R94_1 a e M n λe M n=>k .r e M n) [.t q1] [q0]
def R95_1:RegF:=λa e M n k=>e.g q0 λb=>oA b (v_mkf s144 [b] [] λc=>oA b (v_mkf s145 [b] [] λd=>mkmV M n λf M n=>v_bld [.nilf,.nilf,.nilm] [(0,1,c),(1,1,d),(2,1,f)] λg=>bxV 253 g M n λh M n=>Y e q1 h M n k))
def S95:List (P × I):=[(s0,q0),(s2,q1)]
def G95:F2:=.mk (λa e M n k=>R94_0 a e M n λe M n=>R95_1 a e M n λe M n=>k .r e M n) [.t q1] [q0]
def R96_0:RegF:=λa e M n k=>oA (.nil) (e.t q0 (.nil) λe=>k e M n)
def R96_1:RegF:=λa e M n k=>mkmV M n λb M n=>v_bld [.nilm] [(0,1,b)] λc=>bxV 256 c M n λd M n=>Y e q0 d M n k
def S96:List (P × I):=[(s0,q0)]
def G96:F2:=.mk (λa e M n k=>R96_0 a e M n λe M n=>R96_1 a e M n λe M n=>k .r e M n) [.t q0] []
def R97_2:RegF:=λa e M n k=>e.g q0 λb=>e.g q1 λc=>oA b (v_nck b λd=>v_fa d 0 λf=>L M f λg=>oA c (lkuV (.agg [i0,i0,bf]) true g c M λh=>oA h (v_ext h 0 λl=>v_ext h 1 λm=>alV 258 [i0,i0,bf] M n λo M n=>stV M o l 3 λM=>Y e q5 m M n k)))
def R97_3:RegF:=λa e M n k=>e.g q1 λb=>oA b (v_lt b i0 λc=>Y e q4 c M n k)
def R97_4:RegF:=λa e M n k=>e.g q5 λb=>oA b (Y e q6 b M n k)
def R97_5:RegF:=λa e M n k=>e.g q2 λb=>e.g q0 λc=>oA b (v_ne b m0 λd=>oA d (gM d M n c λf M n=>gM d M n b λg M n=>gN d M n (λj=>callV a s146 [f,g] M n λv M n=>j v M n) λh M n=>gP d M n (v_not h) λl M n=>v_pick d l bf λm=>Y e q7 m M n k))
def R97_6:RegF:=λa e M n k=>e.g q0 λb=>e.g q1 λc=>e.g q2 λd=>oA b (v_nck b λf=>v_fa f 0 λg=>L M g λh=>oA c (oA d (v_bld [i0,i0,bf] [(0,1,d)] λl=>mupV h c l M λM=>k e M n)))
def R97_8:RegF:=λa e M n k=>Y e q8 i4 M n k
def R97_9:RegF:=λa e M n k=>Y e q8 i5 M n k
def R97_10:RegF:=λa e M n k=>Y e q8 i2 M n k
def R97_11:RegF:=λa e M n k=>Y e q8 i1 M n k
def S97:List (P × I):=[(s0,q0),(s1,q1),(s2,q2),(s10,q3),(s20,q4),(s8,q5),(s23,q6),(s25,q7),(s6,q8)]
def G97:F2:=.mk (λa e M n k=>R66_0 a e M n λe M n=>R28_1 a e M n λe M n=>C e q3 (R97_2 a e M n λe M n=>R97_3 a e M n λe M n=>C e q4 (R97_4 a e M n λe M n=>C e q6 (R97_5 a e M n λe M n=>C e q7 (R97_6 a e M n λe M n=>R66_0 a e M n λe M n=>k .r e M n) (R97_8 a e M n λe M n=>k .r e M n)) (R97_9 a e M n λe M n=>k .r e M n)) (R97_10 a e M n λe M n=>k .r e M n)) (R97_11 a e M n λe M n=>k .r e M n)) [.t q8] [q0,q1,q2]
def R98_1:RegF:=λa e M n k=>e.g q0 λb=>oA b (v_nqP false b λc=>Y e q2 c M n k)
def R98_2:RegF:=λa e M n k=>e.g q1 λb=>oA b (v_lt b i0 λc=>Y e q3 c M n k)
def R98_3:RegF:=λa e M n k=>e.g q0 λb=>e.g q1 λc=>oA b (v_nck b λd=>v_fa d 2 λf=>L M f λg=>oA c (lkuV .nil false g c M λh=>v_nqP true h λl=>Y e q4 l M n k))
def R98_4:RegF:=λa e M n k=>e.g q0 λb=>e.g q1 λc=>oA b (v_nck b λd=>v_fa d 2 λf=>L M f λg=>oA c (v_bld [.nil,.nil,.nil,.nil,.nil,.nil,.nil,.nil] [] λh=>bxV 263 h M n λl M n=>mupV g c l M λM=>k e M n))
def R98_6:RegF:=λa e M n k=>Y e q5 i5 M n k
def R98_7:RegF:=λa e M n k=>Y e q5 i2 M n k
def S98:List (P × I):=[(s0,q0),(s1,q1),(s5,q2),(s8,q3),(s11,q4),(s4,q5)]
def G98:F2:=.mk (λa e M n k=>R51_0 a e M n λe M n=>R98_1 a e M n λe M n=>C e q2 (R98_2 a e M n λe M n=>C e q3 (R98_3 a e M n λe M n=>C e q4 (R98_4 a e M n λe M n=>R51_0 a e M n λe M n=>k .r e M n) (R98_6 a e M n λe M n=>k .r e M n)) (R98_7 a e M n λe M n=>k .r e M n)) (R51_6 a e M n λe M n=>k .r e M n)) [.t q5] [q0,q1]
def R99_0:RegF:=λa e M n k=>Y e q7 bt M n k
def R99_1:RegF:=λa e M n k=>Y e q16 bt M n k
def R99_2:RegF:=λa e M n k=>e.g q2 λb=>e.g q1 λc=>oA b (oA c (v_sub b c λd=>Y e q6 d M n k))
def R99_3:RegF:=λa e M n k=>e.g q6 λb=>oA b (v_le b i12 λc=>Z e q12 c M n k)
def R99_4:RegF:=λa e M n k=>e.g q0 λb=>e.g q1 λc=>e.g q2 λd=>oA b (oA c (oA d (callV a s147 [b,c,d] M n λf M n=>k e M n)))
def R99_5:RegF:=λa e M n k=>e.g q3 λb=>oA b (v_eq b i0 λc=>Z e q13 c M n k)
def R99_6:RegF:=λa e M n k=>e.g q0 λb=>e.g q1 λc=>e.g q2 λd=>oA b (oA c (oA d (callV a s148 [b,c,d] M n λf M n=>k e M n)))
def R99_7:RegF:=λa e M n k=>e.g q7 λb=>oA b (v_not b λc=>Z e q14 c M n k)
def R99_8:RegF:=λa e M n k=>e.g q0 λb=>e.g q1 λc=>e.g q2 λd=>oA b (oA c (oA d (callV a s149 [b,c,d] M n λf M n=>k e M n)))
def R99_9:RegF:=λa e M n k=>e.g q3 λb=>oA b (v_sub b i1 λc=>Y e q3 c M n k)
def R99_10:RegF:=λa e M n k=>e.g q0 λb=>e.g q1 λc=>e.g q2 λd=>oA b (oA c (oA d (callV a s150 [b,c,d] M n λf M n=>oA f (v_ext f 0 λg=>v_ext f 1 λh=>oA g (oA h (e.t q5 g λe=>Z e q8 h M n k))))))
def R99_11:RegF:=λa e M n k=>e.g q8 λb=>oA b (v_eq b i2 λc=>Z e q15 c M n k)
def R99_12:RegF:=λa e M n k=>e.g q0 λb=>e.g q1 λc=>e.g q2 λd=>oA b (oA c (oA d (callV a s151 [b,c,d] M n λf M n=>k e M n)))
def R99_13:RegF:=λa e M n k=>e.g q2 λb=>e.g q5 λc=>e.g q1 λd=>oA b (v_sub b i1 λf=>oA c (oA d (v_sub c d λg=>v_sub f g λh=>Y e q5 h M n k)))
def R99_15:RegF:=λa e M n k=>e.g q7 λb=>e.g q16 λc=>e.g q8 λd=>oA b (oA b (gM b M n c λf M n=>v_pick b f bf λg=>oA g (gM g M n d λh M n=>gP g M n (v_eq h i1) λl M n=>v_pick g l bf λm=>Z e q17 m M n k)))
def R99_16:RegF:=λa e M n k=>e.g q0 λb=>e.g q1 λc=>e.g q2 λd=>oA b (oA c (oA d (callV a s152 [b,c,d] M n λf M n=>Z e q18 f M n k)))
def R99_17:RegF:=λa e M n k=>e.g q1 λb=>e.g q0 λc=>e.g q5 λd=>(λW=>oA b (v_lt i0 b λf=>oA f (gM f M n c λg M n=>gM f M n b λh M n=>gP f M n (v_sub h i1) λl M n=>gP f M n (v_ixS g l 1) λm M n=>gL f M n m λo M n=>gM f M n c λp M n=>gM f M n d λq M n=>gP f M n (v_ixS p q 1) λr M n=>gL f M n r λs M n=>gN f M n (λj=>callV a s153 [o,s] M n λv M n=>j v M n) λt M n=>gP f M n (v_not t) λu M n=>v_pick f u bf λw=>bR (Z e q19 w M n k) (keptB W M [])))) M
def R99_18:RegF:=λa e M n k=>e.g q0 λb=>e.g q1 λc=>e.g q2 λd=>e.g q5 λf=>oA b (oA c (oA d (oA f (callV a s154 [b,c,d,f] M n λg M n=>Y e q20 g M n k))))
def R99_19:RegF:=λa e M n k=>e.g q20 λb=>oA b (Y e q1 b M n k)
def R99_20:RegF:=λa e M n k=>e.g q0 λb=>e.g q1 λc=>e.g q2 λd=>e.g q5 λf=>oA b (oA c (oA d (oA f (callV a s155 [b,c,d,f] M n λg M n=>oA g (v_ext g 0 λh=>v_ext g 1 λl=>oA h (oA l (e.t q4 h λe=>Z e q21 l M n k)))))))
def R99_21:RegF:=λa e M n k=>e.g q21 λb=>oA b (Y e q16 b M n k)
def R99_22:RegF:=λa e M n k=>e.g q4 λb=>e.g q1 λc=>e.g q2 λd=>oA b (oA c (v_sub b c λf=>oA d (oA b (v_sub d b λg=>oA f (oA g (e.t q9 f λe=>Z e q10 g M n k))))))
def R99_23:RegF:=λa e M n k=>e.g q6 λb=>oA b (v_quo b i8 λc=>Y e q11 c M n k)
def R99_24:RegF:=λa e M n k=>e.g q9 λb=>e.g q10 λc=>oA b (oA c (v_lt b c λd=>Z e q22 d M n k))
def R99_25:RegF:=λa e M n k=>e.g q9 λb=>e.g q11 λc=>oA b (oA c (v_le c b λd=>Y e q7 d M n k))
def R99_26:RegF:=λa e M n k=>e.g q0 λb=>e.g q1 λc=>e.g q4 λd=>e.g q3 λf=>oA b (oA c (oA d (oA f (callV a s99 [b,c,d,f] M n λg M n=>k e M n))))
def R99_27:RegF:=λa e M n k=>e.g q4 λb=>oA b (v_add b i1 λc=>Y e q1 c M n k)
def R99_28:RegF:=λa e M n k=>e.g q10 λb=>e.g q11 λc=>oA b (oA c (v_le c b λd=>Y e q7 d M n k))
def R99_29:RegF:=λa e M n k=>e.g q0 λb=>e.g q4 λc=>e.g q2 λd=>e.g q3 λf=>oA b (oA c (v_add c i1 λg=>oA d (oA f (callV a s99 [b,g,d,f] M n λh M n=>k e M n))))
def R99_30:RegF:=λa e M n k=>e.g q4 λb=>oA b (Y e q2 b M n k)
def S99:List (P × I):=[(s0,q0),(s1,q1),(s2,q2),(s3,q3),(s14,q4),(s11,q5),(s10,q6),(s8,q7),(s12,q8),(s16,q9),(s17,q10),(s18,q11),(s23,q12),(s29,q13),(s35,q14),(s50,q15),(s9,q16),(s68,q17),(s72,q18),(s87,q19),(s13,q20),(s15,q21),(s113,q22)]
def G99:F2:=.mk ((c_seq (c_fn R99_0) (c_seq (c_fn R99_1) (c_blk 0 (loopK (c_blk 1 (c_seq (c_fn R99_2) (c_seq (c_seq (c_fn R99_3) (c_cond (.t q12) (c_seq (c_fn R99_4) c_ret) c_skip)) (c_seq (c_seq (c_fn R99_5) (c_cond (.t q13) (c_seq (c_fn R99_6) c_ret) c_skip)) (c_seq (c_seq (c_fn R99_7) (c_cond (.t q14) (c_seq (c_fn R99_8) (c_fn R99_9)) c_skip)) (c_seq (c_fn R99_10) (c_seq (c_seq (c_fn R99_11) (c_cond (.t q15) (c_seq (c_fn R99_12) (c_seq (c_fn R99_13) (c_fn R97_11))) c_skip)) (c_seq (c_seq (c_fn R99_15) (c_cond (.t q17) (c_seq (c_fn R99_16) (c_cond (.t q18) c_ret c_skip)) c_skip)) (c_seq (c_seq (c_fn R99_17) (c_cond (.t q19) (c_seq (c_fn R99_18) (c_seq (c_fn R99_19) (c_exit 1))) c_skip)) (c_seq (c_fn R99_20) (c_seq (c_fn R99_21) (c_seq (c_fn R99_22) (c_seq (c_fn R99_23) (c_seq (c_fn R99_24) (c_cond (.t q22) (c_seq (c_fn R99_25) (c_seq (c_fn R99_26) (c_fn R99_27))) (c_seq (c_fn R99_28) (c_seq (c_fn R99_29) (c_fn R99_30))))))))))))))))))))))) [] [q0,q1,q2,q3]
def R100_1:RegF:=λa e M n k=>e.g q0 λb=>oA b (callV a s157 [b] M n λc M n=>Y e q1 c M n k)
def R100_2:RegF:=λa e M n k=>e.g q0 λb=>oA b (v_conv .u32 b λc=>callV a s156 [c] M n λd M n=>Y e q1 d M n k)
def S100:List (P × I):=[(s0,q0),(s2,q1)]
def G100:F2:=.mk (λa e M n k=>R72_0 a e M n λe M n=>VV.onB (.bool false) λc=>Bool.rec (R100_1 a e M n λe M n=>k .r e M n) (R100_2 a e M n λe M n=>k .r e M n) c) [.t q1] [q0]
def R104_2:RegF:=λa e M n k=>e.g q2 λb=>oA b (Y e q7 b M n k)
def R104_3:RegF:=λa e M n k=>e.g q0 λb=>oA b (v_lenS b λc=>oA i0 (e.t q5 b λe=>e.t q3 c λe=>Z e q1 i0 M n k))
def R104_4:RegF:=λa e M n k=>e.g q1 λb=>e.g q3 λc=>v_lt b c λd=>Z e q4 d M n k
def R104_5:RegF:=λa e M n k=>e.g q5 λb=>e.g q1 λc=>v_ixS b c 1 λd=>L M d λf=>Y e q6 f M n k
def R104_6:RegF:=λa e M n k=>e.g q2 λb=>e.g q6 λc=>oA b (oA c (callV a s72 [c] M n λd M n=>v_add b d λf=>callV a s72 [f] M n λg M n=>Y e q2 g M n k))
def S104:List (P × I):=[(s0,q0),(s8,q1),(s3,q2),(s7,q3),(s9,q4),(s6,q5),(s5,q6),(s2,q7)]
def G104:F2:=.mk (λa e M n k=>R62_0 a e M n λe M n=>R35_3 a e M n λe M n=>(λ(j0:K3)=>R104_3 a e M n λe M n=>(λ(j1:K3)=>loopK (λa e M n k=>R104_4 a e M n λe M n=>C e q4 (k (.x 0) e M n) (R104_5 a e M n λe M n=>R104_6 a e M n λe M n=>R28_9 a e M n λe M n=>k .n e M n)) a e M n (X k j1 0)) j0) λe M n=>R104_2 a e M n λe M n=>k .r e M n) [.t q7] [q0]
def R105_0:RegF:=λa e M n k=>e.g q0 λb=>e.g q1 λc=>bxV 102 b M n λd M n=>bxV 32 c M n λf M n=>alV 102 (rep 9 i0 ++ [bf,i0,i0,i0,(.str []),bf,i0,i0,i0,i0,i0,.nils]) M n λg M n=>oA bf (e.t q3 d λe=>e.t q5 f λe=>e.t q4 g λe=>Z e q8 bf M n k)
def R105_1:RegF:=λa e M n k=>e.g q3 λb=>e.g q5 λc=>e.g q2 λd=>ldW M b 21 true λ_ f=>ldW M c 8 true λ_ g=>oA d (callV a s160 [f,g,d] M n λh M n=>v_not h λl=>Z e q6 l M n k)
def R105_2:RegF:=λa e M n k=>oA (.fn s161 [] []) (e.t q7 (.fn s161 [] []) λe=>k e M n)
def R105_3:RegF:=λa e M n k=>e.g q7 λb=>e.g q3 λc=>e.g q5 λd=>e.g q2 λf=>e.g q4 λg=>oA b (ldW M c 21 true λ_ h=>ldW M d 8 true λ_ l=>oA f (cvV a b [h,l,f] M n λm M n=>callV a s114 [m] M n λo M n=>stV M g o 21 λM=>Y e q8 bt M n k))
def R105_4:RegF:=λa e M n k=>e.g q3 λb=>e.g q4 λc=>ldW M b 21 true λ_ d=>callV a s114 [d] M n λf M n=>stV M c f 21 λM=>Y e q8 bf M n k
def S105:List (P × I):=[(s0,q0),(s1,q1),(s2,q2),(s3,q3),(s6,q4),(s4,q5),(s13,q6),(s8,q7),(s7,q8)]
def G105:F2:=.mk (λa e M n k=>R105_0 a e M n λe M n=>R105_1 a e M n λe M n=>C e q6 (R105_2 a e M n λe M n=>R105_3 a e M n λe M n=>k .r e M n) (R105_4 a e M n λe M n=>k .r e M n)) [.c q4 21 true,.t q8] [q0,q1,q2]
def R106_5:RegF:=λa e M n k=>e.g q1 λb=>e.g q0 λc=>e.g q3 λd=>oA b (oA c (oA d (v_ixS c d 1 λf=>L M f λg=>cvV a b [g] M n λh M n=>Z e q6 h M n k)))
def S106:List (P × I):=[(s0,q0),(s1,q1),(s8,q2),(s5,q3),(s7,q4),(s9,q5),(s16,q6),(s4,q7)]
def G106:F2:=.mk (λa e M n k=>R62_0 a e M n λe M n=>(λ(j0:K3)=>R62_2 a e M n λe M n=>(λ(j1:K3)=>loopK (λa e M n k=>R62_3 a e M n λe M n=>C e q5 (k (.x 0) e M n) (R62_4 a e M n λe M n=>R106_5 a e M n λe M n=>C e q6 (R14_15 a e M n λe M n=>k .n e M n) (R62_7 a e M n λe M n=>k .r e M n))) a e M n (X k j1 0)) j0) λe M n=>R62_1 a e M n λe M n=>k .r e M n) [.t q7] [q0,q1]
def R109_0:RegF:=λa e M n k=>oA i0 (oA bf (e.t q9 i0 λe=>Z e q10 bf M n k))
def R109_1:RegF:=λa e M n k=>callV a s162 [] M n λb M n=>Y e q3 b M n k
def R109_2:RegF:=λa e M n k=>e.g q3 λb=>oA b (callV a s165 [b] M n λc M n=>v_ext c 0 λd=>v_ext c 1 λf=>oA d (oA f (e.t q9 d λe=>Z e q10 f M n k)))
def R109_3:RegF:=λa e M n k=>e.g q0 λb=>oA b (callV a s163 [b] M n λc M n=>v_lenS c λd=>oA i0 (e.t q6 c λe=>e.t q4 d λe=>Z e q1 i0 M n k))
def R109_6:RegF:=λa e M n k=>e.g q1 λb=>e.g q6 λc=>oA b (v_ixS c b 3 λd=>ldW M d 3 true λ_ f=>alV 99 [i0,i0,i0] M n λg M n=>oA b (stV M g f 3 λM=>e.t q8 g λe=>Z e q2 b M n k))
def R109_7:RegF:=λa e M n k=>e.g q0 λb=>e.g q2 λc=>oA b (v_nck b λd=>v_fa d 2 λf=>L M f λg=>oA c (v_ixS g c 21 λh=>v_fa h 5 λl=>L M l λm=>v_eq m i1 λo=>Z e q7 o M n k))
def R109_8:RegF:=λa e M n k=>e.g q3 λb=>e.g q2 λc=>e.g q8 λd=>oA b (oA c (ldW M d 3 true λ_ f=>callV a s164 [b,c,f] M n λg M n=>k e M n))
def S109:List (P × I):=[(s0,q0),(s11,q1),(s5,q2),(s4,q3),(s10,q4),(s12,q5),(s9,q6),(s24,q7),(s6,q8),(s2,q9),(s3,q10)]
def G109:F2:=.mk (λa e M n k=>R109_0 a e M n λe M n=>R109_1 a e M n λe M n=>(λ(j0:K3)=>R109_3 a e M n λe M n=>(λ(j1:K3)=>loopK (λa e M n k=>R28_6 a e M n λe M n=>C e q5 (k (.x 0) e M n) ((λ(j2:K3)=>(λ(j3:K3)=>R109_6 a e M n λe M n=>R109_7 a e M n λe M n=>(λ(j4:K3)=>C e q7 (j4 e M n) (R109_8 a e M n j4)) j3) j2) λe M n=>R28_9 a e M n λe M n=>k .n e M n)) a e M n (X k j1 0)) j0) λe M n=>R109_2 a e M n λe M n=>k .r e M n) [.t q9,.t q10] [q0]
def R110_0:RegF:=λa e M n k=>oA i0 (oA bf (e.t q7 i0 λe=>Z e q8 bf M n k))
def R110_1:RegF:=λa e M n k=>e.g q0 λb=>e.g q1 λc=>oA b (v_nck b λd=>v_fa d 2 λf=>L M f λg=>oA c (v_ixS g c 21 λh=>v_fa h 19 λl=>L M l λm=>Y e q2 m M n k))
def R110_2:RegF:=λa e M n k=>e.g q0 λb=>e.g q2 λc=>oA b (v_nck b λd=>v_fa d 5 λf=>L M f λg=>oA c (callV a s73 [g,c] M n λh M n=>Y e q6 h M n k))
def R110_3:RegF:=λa e M n k=>e.g q2 λb=>e.g q6 λc=>e.g q1 λd=>oA b (oA c (v_le i0 c λf=>oA f (gM f M n c λg M n=>gM f M n d λh M n=>gP f M n (v_ne g h) λl M n=>v_pick f l bf λm=>oA b (oA m (e.t q7 b λe=>Z e q8 m M n k)))))
def R110_5:RegF:=λa e M n k=>e.g q2 λb=>oA b (v_lt b i0 λc=>Z e q4 c M n k)
def R110_6:RegF:=λa e M n k=>e.g q3 λc=>e.g q0 λd=>e.g q1 λf=>(λW=>v_fa c 0 λg=>L M g λh=>v_ne h i2 λl=>oA l (hM l M n d λm M n=>hM l M n f λo M n=>hP l M n (v_fa c 1) λp M n=>hL l M n p λq M n=>hN l M n (λj=>callV a s166 [m,o,q] M n λv M n=>j v M n) λr M n=>hP l M n (v_not r) λs M n=>v_pick l bt s λt=>oA t (hM t M n d λu M n=>hP t M n (v_nck u) λw M n=>hP t M n (v_fa w 4) λx M n=>gsK t false [] (λj=>ldV M x 1 false λb v=>j v (b :: [])) λy av16=>hM t M n d λz M n=>hM t M n f λA M n=>hN t M n (λj=>callV a s168 [z,A] M n λv M n=>j v M n) λB M n=>hP t M n (v_fa c 1) λC M n=>gsK t false av16 (λj=>ldV M C 1 false λb v=>j v (b :: av16)) λD av21=>hN t M n (λj=>callV a s167 [y,B,D] M n λv M n=>j v M n) λE M n=>hP t M n (v_ne E i0) λF M n=>v_pick t bt F λG=>bR (Z e q5 G M n k) (keptB W M av21)))) M
def R110_7:RegF:=λa e M n k=>e.g q3 λb=>v_fa b 1 λc=>L M c λd=>Y e q2 d M n k
def S110:List (P × I):=[(s0,q0),(s1,q1),(s6,q2),(s7,q3),(s21,q4),(s45,q5),(s8,q6),(s4,q7),(s5,q8)]
def G110:F2:=.mk (λa e M n k=>R110_0 a e M n λe M n=>R110_1 a e M n λe M n=>(λ(j0:K3)=>R70_1 a e M n λe M n=>R110_5 a e M n λe M n=>(λ(j1:K3)=>C e q4 (j1 e M n) (R110_6 a e M n λe M n=>C e q5 (R110_7 a e M n j1) (R110_0 a e M n λe M n=>k .r e M n))) j0) λe M n=>R110_2 a e M n λe M n=>R110_3 a e M n λe M n=>k .r e M n) [.t q7,.t q8] [q0,q1]
def R111_0:RegF:=λa e M n k=>oA bf (oA i0 (e.t q9 bf λe=>Z e q10 i0 M n k))
def R111_1:RegF:=λa e M n k=>e.g q0 λb=>oA b (v_nqP false b λc=>Y e q4 c M n k)
def R111_2:RegF:=λa e M n k=>e.g q1 λb=>oA b (v_lt b i0 λc=>Y e q5 c M n k)
def R111_3:RegF:=λa e M n k=>e.g q0 λb=>e.g q1 λc=>oA b (oA c (callV a s169 [b,c] M n λd M n=>v_le i0 d λf=>Y e q6 f M n k))
def R111_4:RegF:=λa e M n k=>e.g q0 λb=>e.g q1 λc=>e.g q2 λd=>(λW=>oA b (v_nck b λf=>v_fa f 0 λg=>ldV M g 1 false λh l=>oA b (oA c (callV a s170 [b,c] M n λm M n=>oA d (callV a s167 [l,m,d] M n λo M n=>oA o (bR (Z e q3 o M n k) (keptB W M (h :: [])))))))) M
def R111_5:RegF:=λa e M n k=>e.g q3 λb=>oA b (v_ne b i0 λc=>Z e q7 c M n k)
def R111_6:RegF:=λa e M n k=>e.g q0 λb=>e.g q2 λc=>oA b (oA c (callV a s73 [b,c] M n λd M n=>v_le i0 d λf=>Z e q8 f M n k))
def R111_7:RegF:=λa e M n k=>e.g q0 λb=>e.g q1 λc=>e.g q2 λd=>(λW=>oA b (v_nck b λf=>v_fa f 1 λg=>ldV M g 1 false λh l=>oA c (oA b (v_nck b λm=>v_fa m 1 λo=>L M o λp=>oA c (lkuV .nils false p c M λq=>oA d (v_bld [i0,i0] [(0,1,d)] λr=>bslV 166 2 1 [i0,i0] [(0,2,r)] M n λs M n=>appV 166 2 16 q s M n λt M n=>mupV l c t M λM=>bR (k e M n) (keptB W M (h :: [])))))))) M
def R111_8:RegF:=λa e M n k=>oA bt (oA i0 (e.t q9 bt λe=>Z e q10 i0 M n k))
def R111_9:RegF:=λa e M n k=>e.g q0 λb=>e.g q1 λc=>e.g q2 λd=>oA b (v_nck b λf=>v_fa f 2 λg=>L M g λh=>oA c (oA d (mupV h c d M λM=>k e M n)))
def R111_11:RegF:=λa e M n k=>e.g q3 λb=>oA b (oA bf (oA b (e.t q9 bf λe=>Z e q10 b M n k)))
def R111_12:RegF:=λa e M n k=>oA bf (oA i5 (e.t q9 bf λe=>Z e q10 i5 M n k))
def R111_13:RegF:=λa e M n k=>oA bf (oA i2 (e.t q9 bf λe=>Z e q10 i2 M n k))
def R111_14:RegF:=λa e M n k=>oA bf (oA i1 (e.t q9 bf λe=>Z e q10 i1 M n k))
def S111:List (P × I):=[(s0,q0),(s1,q1),(s2,q2),(s8,q3),(s9,q4),(s12,q5),(s15,q6),(s30,q7),(s35,q8),(s6,q9),(s7,q10)]
def G111:F2:=.mk (λa e M n k=>R111_0 a e M n λe M n=>R111_1 a e M n λe M n=>C e q4 (R111_2 a e M n λe M n=>C e q5 (R111_3 a e M n λe M n=>C e q6 (R111_4 a e M n λe M n=>R111_5 a e M n λe M n=>C e q7 (R111_6 a e M n λe M n=>C e q8 (R111_7 a e M n λe M n=>R111_8 a e M n λe M n=>k .r e M n) (R111_9 a e M n λe M n=>R111_0 a e M n λe M n=>k .r e M n)) (R111_11 a e M n λe M n=>k .r e M n)) (R111_12 a e M n λe M n=>k .r e M n)) (R111_13 a e M n λe M n=>k .r e M n)) (R111_14 a e M n λe M n=>k .r e M n)) [.t q9,.t q10] [q0,q1,q2]
def R112_1:RegF:=λa e M n k=>e.g q0 λb=>e.g q1 λc=>(λW=>oA b (oA c (callV a s69 [b,c] M n λd M n=>oA b (v_nck b λf=>v_fa f 2 λg=>ldV M g 1 false λh l=>oA c (v_ixS l c 21 λm=>ldV M m 21 true λo p=>alV 66 [i0,i0,i0,i0,i0,i0,i0,(.str []),(.str [])] M n λq M n=>alV 102 (rep 9 i0 ++ [bf,i0,i0,i0,(.str []),bf,i0,i0,i0,i0,i0,.nils]) M n λr M n=>stV M q d 9 λM=>bR (stV M r p 21 λM=>e.t q3 q λe=>Z e q2 r M n k) (keptB W M (o :: (h :: [])))))))) M
def R112_2:RegF:=λa e M n k=>e.g q3 λb=>e.g q2 λc=>v_fa b 0 λd=>L M d λf=>v_ne f i10 λg=>oA g (hP g M n (v_fa c 19) λh M n=>hL g M n h λl M n=>hP g M n (v_le i0 l) λm M n=>v_pick g bt m λo=>Z e q4 o M n k)
def R112_3:RegF:=λa e M n k=>e.g q3 λb=>e.g q2 λc=>v_fa b 4 λd=>ldW M d 5 true λ_ f=>v_fa c 10 λg=>L M g λh=>callV a s171 [f,h] M n λl M n=>Y e q5 l M n k
def R112_4:RegF:=λa e M n k=>e.g q0 λb=>e.g q1 λc=>e.g q2 λd=>e.g q5 λf=>(λW=>oA b (oA c (callV a s115 [b,c] M n λg M n=>oA g (gdK g true .off M n (λj=>ldW M d 21 true λ_ v=>j v M n) λh M n=>gM g M n b λl M n=>gP g M n (v_nck l) λm M n=>gP g M n (v_fa m 0) λo M n=>gL g M n o λp M n=>gM g M n c λq M n=>gP g M n (v_ixS p q 8) λr M n=>gdK g true .off M n (λj=>ldW M r 8 true λ_ v=>j v M n) λs M n=>gM g M n f λt M n=>gN g M n (λj=>callV a s172 [h,s,t] M n λv M n=>j v M n) λu M n=>v_pick g u bf λw=>oA w (hM w M n b λx M n=>hP w M n (v_nck x) λy M n=>hP w M n (v_fa y 5) λz M n=>hL w M n z λA M n=>hM w M n c λB M n=>hM w M n f λC M n=>hN w M n (λj=>callV a s173 [A,B,C] M n λv M n=>j v M n) λD M n=>v_pick w bt D λE=>oA E (bR (Z e q6 E M n k) (keptB W M []))))))) M
def S112:List (P × I):=[(s0,q0),(s1,q1),(s6,q2),(s5,q3),(s25,q4),(s7,q5),(s4,q6)]
def G112:F2:=.mk (λa e M n k=>R35_0 a e M n λe M n=>R112_1 a e M n λe M n=>R112_2 a e M n λe M n=>C e q4 (R112_3 a e M n λe M n=>R112_4 a e M n λe M n=>k .r e M n) (R35_0 a e M n λe M n=>k .r e M n)) [.t q6] [q0,q1]
def R114_0:RegF:=λa e M n k=>e.g q0 λb=>bxV 102 b M n λc M n=>alV 102 (rep 9 i0 ++ [bf,i0,i0,i0,(.str []),bf,i0,i0,i0,i0,i0,.nils]) M n λd M n=>e.t q1 c λe=>Z e q2 d M n k
def R114_1:RegF:=λa e M n k=>e.g q1 λb=>v_fa b 20 λc=>L M c λd=>callV a s75 [d] M n λf M n=>v_fa b 20 λg=>stV M g f 1 λM=>k e M n
def R114_2:RegF:=λa e M n k=>e.g q1 λb=>e.g q2 λc=>ldW M b 21 true λ_ d=>stV M c d 21 λM=>k e M n
def S114:List (P × I):=[(s0,q0),(s1,q1),(s2,q2)]
def G114:F2:=.mk (λa e M n k=>R114_0 a e M n λe M n=>R114_1 a e M n λe M n=>R114_2 a e M n λe M n=>k .r e M n) [.c q2 21 true] [q0]
def R115_1:RegF:=λa e M n k=>e.g q1 λb=>e.g q0 λc=>oA b (oA c (v_nck c λd=>v_fa d 0 λf=>L M f λg=>v_lenS g λh=>v_lt b h λl=>Y e q2 l M n k))
def S115:List (P × I):=[(s0,q0),(s1,q1),(s4,q2)]
def G115:F2:=.mk (λa e M n k=>R24_0 a e M n λe M n=>R115_1 a e M n λe M n=>k .r e M n) [.t q2] [q0,q1]
def R118_0:RegF:=λa e M n k=>e.g q2 λb=>bxV 66 b M n λc M n=>Z e q5 c M n k
def R118_1:RegF:=λa e M n k=>e.g q0 λb=>e.g q1 λc=>oA b (v_nck b λd=>v_fa d 2 λf=>L M f λg=>oA c (v_ixS g c 21 λh=>Y e q3 h M n k))
def R118_2:RegF:=λa e M n k=>e.g q3 λb=>oA b (v_nck b λc=>v_fa c 8 λd=>L M d λf=>v_sub f i1 λg=>v_nck b λh=>v_fa h 8 λl=>stV M l g 1 λM=>k e M n)
def R118_3:RegF:=λa e M n k=>e.g q3 λb=>oA b (v_nck b λc=>v_fa c 8 λd=>L M d λf=>v_eq f i0 λg=>Z e q6 g M n k)
def R118_4:RegF:=λa e M n k=>e.g q3 λb=>oA b (v_nck b λc=>v_fa c 7 λd=>L M d λf=>v_add f i1 λg=>v_nck b λh=>v_fa h 7 λl=>stV M l g 1 λM=>k e M n)
def R118_5:RegF:=λa e M n k=>e.g q3 λb=>oA b (v_nck b λc=>v_fa c 8 λd=>L M d λf=>v_eq f i0 λg=>Z e q4 g M n k)
def R118_6:RegF:=λa e M n k=>e.g q3 λb=>e.g q5 λc=>oA b (v_fa c 1 λd=>L M d λf=>v_nck b λg=>v_fa g 8 λh=>stV M h f 1 λM=>k e M n)
def S118:List (P × I):=[(s0,q0),(s1,q1),(s2,q2),(s6,q3),(s17,q4),(s5,q5),(s34,q6)]
def G118:F2:=.mk (λa e M n k=>R118_0 a e M n λe M n=>R118_1 a e M n λe M n=>(λ(j0:K3)=>R118_5 a e M n λe M n=>(λ(j2:K3)=>C e q4 (j2 e M n) (R118_6 a e M n j2)) j0) λe M n=>R118_2 a e M n λe M n=>R118_3 a e M n λe M n=>(λ(j1:K3)=>C e q6 (j1 e M n) (R118_4 a e M n j1)) λe M n=>k .n e M n) [] [q0,q1,q2]
def R119_0:RegF:=λa e M n k=>e.g q2 λb=>bxV 66 b M n λc M n=>Z e q3 c M n k
def R119_1:RegF:=λa e M n k=>e.g q3 λb=>e.g q0 λc=>e.g q1 λd=>(λW=>v_fa b 1 λf=>L M f λg=>oA c (v_nck c λh=>v_fa h 3 λl=>L M l λm=>oA d (v_ixS m d 1 λo=>L M o λp=>v_lenS p λq=>v_lt g q λr=>bR (Z e q4 r M n k) (keptB W M [])))) M
def R119_2:RegF:=λa e M n k=>e.g q0 λb=>e.g q1 λc=>oA b (v_nck b λd=>v_fa d 2 λf=>L M f λg=>oA c (v_ixS g c 21 λh=>v_fa h 7 λl=>L M l λm=>v_add m i1 λo=>v_ixS g c 21 λp=>v_fa p 7 λq=>stV M q o 1 λM=>k e M n))
def R119_3:RegF:=λa e M n k=>e.g q0 λb=>e.g q1 λc=>e.g q3 λd=>(λW=>oA b (v_nck b λf=>v_fa f 2 λg=>L M g λh=>oA c (v_fa d 1 λl=>L M l λm=>v_ixS h c 21 λo=>v_fa o 7 λp=>bR (stV M p m 1 λM=>k e M n) (keptB W M [])))) M
def S119:List (P × I):=[(s0,q0),(s1,q1),(s2,q2),(s5,q3),(s16,q4)]
def G119:F2:=.mk (λa e M n k=>R119_0 a e M n λe M n=>R119_1 a e M n λe M n=>(λ(j0:K3)=>C e q4 (R119_2 a e M n j0) (R119_3 a e M n j0)) λe M n=>k .n e M n) [] [q0,q1,q2]
def R120_0:RegF:=λa e M n k=>e.g q2 λb=>bxV 66 b M n λc M n=>k e M n
def R120_1:RegF:=λa e M n k=>e.g q0 λb=>e.g q1 λc=>oA b (oA c (callV a s115 [b,c] M n λd M n=>v_not d λf=>Z e q3 f M n k))
def R120_2:RegF:=λa e M n k=>e.g q0 λb=>e.g q1 λc=>oA b (oA b (v_nck b λd=>v_fa d 5 λf=>L M f λg=>oA c (callV a s177 [g,c] M n λh M n=>callV a s176 [b,h] M n λl M n=>k e M n)))
def R120_3:RegF:=λa e M n k=>e.g q0 λb=>e.g q1 λc=>oA b (oA c (oA b (v_nck b λd=>v_fa d 1 λf=>L M f λg=>v_add g i1 λh=>callV a s178 [b,c,h,bf] M n λl M n=>k e M n)))
def S120:List (P × I):=[(s0,q0),(s1,q1),(s2,q2),(s9,q3)]
def G120:F2:=.mk (λa e M n k=>R120_0 a e M n λe M n=>R120_1 a e M n λe M n=>C e q3 (R120_2 a e M n λe M n=>R120_3 a e M n λe M n=>k .n e M n) (R119_2 a e M n λe M n=>k .r e M n)) [] [q0,q1,q2]
def R121_1:RegF:=λa e M n k=>Y e q5 i6 M n k
def R121_2:RegF:=λa e M n k=>e.g q0 λb=>e.g q1 λc=>e.g q3 λd=>e.g q5 λf=>(λW=>oA b (oA c (ldV M d 9 true λg h=>oA f (callV a s180 [f] M n λl M n=>callV a s179 [b,c,h,l] M n λm M n=>bR (k e M n) (keptB W M (g :: [])))))) M
def R121_3:RegF:=λa e M n k=>e.g q0 λb=>e.g q1 λc=>e.g q3 λd=>oA b (oA c (v_fa d 1 λf=>L M f λg=>callV a s166 [b,c,g] M n λh M n=>Z e q4 h M n k))
def R121_4:RegF:=λa e M n k=>e.g q0 λb=>e.g q1 λc=>e.g q3 λd=>(λW=>oA b (v_nck b λf=>v_fa f 5 λg=>L M g λh=>oA c (v_fa d 1 λl=>L M l λm=>callV a s111 [h,c,m] M n λo M n=>oA o (v_ext o 0 λp=>v_ext o 1 λq=>oA q (bR (Z e q5 q M n k) (keptB W M [])))))) M
def S121:List (P × I):=[(s0,q0),(s1,q1),(s2,q2),(s5,q3),(s11,q4),(s6,q5)]
def G121:F2:=.mk (λa e M n k=>R119_0 a e M n λe M n=>R121_1 a e M n λe M n=>(λ(j0:K3)=>R121_3 a e M n λe M n=>(λ(j1:K3)=>C e q4 (j1 e M n) (R121_4 a e M n j1)) j0) λe M n=>R121_2 a e M n λe M n=>k .n e M n) [] [q0,q1,q2]
def R122_1:RegF:=λa e M n k=>e.g q0 λb=>e.g q1 λc=>e.g q3 λd=>(λW=>oA b (v_nck b λf=>v_fa f 5 λg=>L M g λh=>oA c (v_fa d 1 λl=>L M l λm=>callV a s181 [h,c,m] M n λo M n=>oA o (v_ext o 0 λp=>v_ext o 1 λq=>oA p (oA q (bR (e.t q4 p λe=>Z e q5 q M n k) (keptB W M []))))))) M
def R122_2:RegF:=λa e M n k=>e.g q0 λb=>e.g q4 λc=>oA b (oA c (callV a s176 [b,c] M n λd M n=>k e M n))
def S122:List (P × I):=[(s0,q0),(s1,q1),(s2,q2),(s5,q3),(s6,q4),(s7,q5)]
def G122:F2:=.mk (λa e M n k=>R119_0 a e M n λe M n=>R122_1 a e M n λe M n=>R122_2 a e M n λe M n=>R121_2 a e M n λe M n=>k .n e M n) [] [q0,q1,q2]
def R126_0:RegF:=λa e M n k=>e.g q2 λb=>bxV 66 b M n λc M n=>Z e q4 c M n k
def R126_3:RegF:=λa e M n k=>e.g q3 λb=>oA b (oA b (v_nck b λc=>v_fa c 8 λd=>L M d λf=>v_lt i0 f λg=>v_nck b λh=>v_fa h 9 λl=>stV M l g 1 λM=>k e M n))
def R126_4:RegF:=λa e M n k=>e.g q3 λb=>oA b (v_nck b λc=>v_fa c 9 λd=>L M d λf=>v_not f λg=>Z e q6 g M n k)
def R126_5:RegF:=λa e M n k=>e.g q0 λb=>e.g q1 λc=>e.g q4 λd=>oA b (oA c (ldW M d 9 true λ_ f=>callV a s187 [b,c,f] M n λg M n=>k e M n))
def R126_6:RegF:=λa e M n k=>e.g q3 λb=>oA b (v_nck b λc=>v_fa c 9 λd=>L M d λf=>v_not f λg=>Z e q5 g M n k)
def R126_7:RegF:=λa e M n k=>e.g q3 λb=>e.g q4 λc=>(λW=>oA b (v_fa c 4 λd=>ldW M d 5 true λ_ f=>oA b (v_nck b λg=>v_fa g 10 λh=>L M h λl=>callV a s171 [f,l] M n λm M n=>v_nck b λo=>v_fa o 8 λp=>bR (stV M p m 1 λM=>k e M n) (keptB W M [])))) M
def S126:List (P × I):=[(s0,q0),(s1,q1),(s2,q2),(s6,q3),(s5,q4),(s17,q5),(s47,q6)]
def G126:F2:=.mk (λa e M n k=>R126_0 a e M n λe M n=>R118_1 a e M n λe M n=>(λ(j0:K3)=>R126_6 a e M n λe M n=>(λ(j2:K3)=>C e q5 (j2 e M n) (R126_7 a e M n j2)) j0) λe M n=>R118_2 a e M n λe M n=>R126_3 a e M n λe M n=>R126_4 a e M n λe M n=>(λ(j1:K3)=>C e q6 (j1 e M n) (R126_5 a e M n j1)) λe M n=>k .n e M n) [] [q0,q1,q2]
def R128_1:RegF:=λa e M n k=>e.g q0 λb=>e.g q1 λc=>oA b (oA c (callV a s188 [b,c] M n λd M n=>v_le i0 d λf=>Y e q2 f M n k))
def S128:List (P × I):=[(s0,q0),(s1,q1),(s4,q2)]
def G128:F2:=.mk (λa e M n k=>R24_0 a e M n λe M n=>R128_1 a e M n λe M n=>k .r e M n) [.t q2] [q0,q1]
def R129_0:RegF:=λa e M n k=>e.g q0 λb=>bxV 166 b M n λc M n=>oA bf (e.t q2 c λe=>Z e q3 bf M n k)
def R129_1:RegF:=λa e M n k=>e.g q2 λb=>e.g q1 λc=>(λW=>v_fa b 1 λd=>ldV M d 1 false λf g=>L M c λh=>v_nck h λl=>v_fa l 4 λm=>L M m λo=>v_fa b 0 λp=>L M p λq=>callV a s130 [o,q] M n λr M n=>v_le r g λs=>oA s (bR (Z e q3 s M n k) (keptB W M (f :: [])))) M
def S129:List (P × I):=[(s0,q0),(s1,q1),(s2,q2),(s3,q3)]
def G129:F2:=.mk (λa e M n k=>R129_0 a e M n λe M n=>R129_1 a e M n λe M n=>k .r e M n) [.t q3] [q0,q1]
def R130_1:RegF:=λa e M n k=>e.g q0 λb=>e.g q1 λc=>oA b (oA c (callV a s189 [b,c] M n λd M n=>v_fd d 1 1 false λf=>Y e q2 f M n k))
def S130:List (P × I):=[(s0,q0),(s1,q1),(s4,q2)]
def G130:F2:=.mk (λa e M n k=>R35_3 a e M n λe M n=>R130_1 a e M n λe M n=>k .r e M n) [.t q2] [q0,q1]
def R132_2:RegF:=λa e M n k=>e.g q0 λb=>oA b (v_nck b λc=>v_fa c 1 λd=>L M d λf=>Y e q2 f M n k)
def S132:List (P × I):=[(s0,q0),(s4,q1),(s2,q2)]
def G132:F2:=.mk (λa e M n k=>R35_3 a e M n λe M n=>R15_1 a e M n λe M n=>C e q1 (R132_2 a e M n λe M n=>k .r e M n) (R35_3 a e M n λe M n=>k .r e M n)) [.t q2] [q0]
def R133_2:RegF:=λa e M n k=>e.g q4 λb=>oA b (Y e q9 b M n k)
def R133_3:RegF:=λa e M n k=>e.g q0 λb=>oA b (v_lenS b λc=>oA i0 (e.t q7 b λe=>e.t q5 c λe=>Z e q2 i0 M n k))
def R133_4:RegF:=λa e M n k=>e.g q2 λb=>e.g q5 λc=>v_lt b c λd=>Z e q6 d M n k
def R133_6:RegF:=λa e M n k=>e.g q7 λb=>e.g q2 λc=>v_ixS b c 3 λd=>ldW M d 3 true λ_ f=>alV 41 [i0,i0,i0] M n λg M n=>stV M g f 3 λM=>Z e q3 g M n k
def R133_7:RegF:=λa e M n k=>e.g q1 λb=>e.g q3 λc=>oA b (ldW M c 3 true λ_ d=>cvV a b [d] M n λf M n=>Z e q8 f M n k)
def R133_8:RegF:=λa e M n k=>e.g q4 λb=>e.g q3 λc=>oA b (ldW M c 3 true λ_ d=>bslV 41 3 1 [i0,i0,i0] [(0,3,d)] M n λf M n=>appV 41 3 24 b f M n λg M n=>Y e q4 g M n k)
def S133:List (P × I):=[(s0,q0),(s1,q1),(s10,q2),(s7,q3),(s5,q4),(s9,q5),(s11,q6),(s8,q7),(s16,q8),(s4,q9)]
def G133:F2:=.mk (λa e M n k=>R77_0 a e M n λe M n=>R19_3 a e M n λe M n=>(λ(j0:K3)=>R133_3 a e M n λe M n=>(λ(j1:K3)=>loopK (λa e M n k=>R133_4 a e M n λe M n=>C e q6 (k (.x 0) e M n) ((λ(j2:K3)=>(λ(j3:K3)=>R133_6 a e M n λe M n=>R133_7 a e M n λe M n=>(λ(j4:K3)=>C e q8 (j4 e M n) (R133_8 a e M n j4)) j3) j2) λe M n=>R14_15 a e M n λe M n=>k .n e M n)) a e M n (X k j1 0)) j0) λe M n=>R133_2 a e M n λe M n=>k .r e M n) [.t q9] [q0,q1]
def R134_0:RegF:=λa e M n k=>e.g q0 λb=>bxV 41 b M n λc M n=>oA bf (e.t q2 c λe=>Z e q3 bf M n k)
def R134_1:RegF:=λa e M n k=>e.g q2 λb=>e.g q1 λc=>v_fa b 0 λd=>L M d λf=>L M c λg=>v_eq f g λh=>Y e q3 h M n k
def S134:List (P × I):=[(s0,q0),(s1,q1),(s2,q2),(s3,q3)]
def G134:F2:=.mk (λa e M n k=>R134_0 a e M n λe M n=>R134_1 a e M n λe M n=>k .r e M n) [.t q3] [q0,q1]
def R135_2:RegF:=λa e M n k=>e.g q0 λb=>bslV 72 11 0 [] [] M n λc M n=>oA b (appV 72 11 112 c b M n λd M n=>Y e q2 d M n k)
def S135:List (P × I):=[(s0,q0),(s4,q1),(s2,q2)]
def G135:F2:=.mk (λa e M n k=>R15_0 a e M n λe M n=>R32_1 a e M n λe M n=>C e q1 (R135_2 a e M n λe M n=>k .r e M n) (R15_0 a e M n λe M n=>k .r e M n)) [.t q2] [q0]
def R136_1:RegF:=λa e M n k=>e.g q0 λb=>e.g q1 λc=>oA b (oA c (callV a s190 [b,c] M n λd M n=>v_le i0 d λf=>Y e q2 f M n k))
def S136:List (P × I):=[(s0,q0),(s1,q1),(s4,q2)]
def G136:F2:=.mk (λa e M n k=>R24_0 a e M n λe M n=>R136_1 a e M n λe M n=>k .r e M n) [.t q2] [q0,q1]
def R138_1:RegF:=λa e M n k=>e.g q0 λb=>e.g q1 λc=>oA b (v_fa c 2 λd=>L M d λf=>v_lenS f λg=>v_sub g i1 λh=>callV a s81 [b,i0,h] M n λl M n=>v_not l λm=>Y e q2 m M n k)
def S138:List (P × I):=[(s0,q0),(s1,q1),(s3,q2)]
def G138:F2:=.mk (λa e M n k=>R24_0 a e M n λe M n=>R138_1 a e M n λe M n=>k .r e M n) [.t q2] [q0,q1]
def S139:List (P × I):=[(s0,q0),(s1,q1),(s8,q2),(s5,q3),(s7,q4),(s9,q5),(s16,q6),(s4,q7)]
def G139:F2:=.mk (λa e M n k=>R62_0 a e M n λe M n=>(λ(j0:K3)=>R62_2 a e M n λe M n=>(λ(j1:K3)=>loopK (λa e M n k=>R62_3 a e M n λe M n=>C e q5 (k (.x 0) e M n) (R62_4 a e M n λe M n=>R106_5 a e M n λe M n=>C e q6 (R14_15 a e M n λe M n=>k .n e M n) (R62_7 a e M n λe M n=>k .r e M n))) a e M n (X k j1 0)) j0) λe M n=>R62_1 a e M n λe M n=>k .r e M n) [.t q7] [q0,q1]
def R140_0:RegF:=λa e M n k=>oA (.nilf) (e.t q9 (.nilf) λe=>k e M n)
def R140_1:RegF:=λa e M n k=>e.g q0 λb=>Y e q1 b M n k
def R140_2:RegF:=λa e M n k=>e.g q1 λb=>v_eq b i0 λc=>Y e q2 c M n k
def R140_3:RegF:=λa e M n k=>e.g q1 λb=>v_eq b i4 λc=>Y e q2 c M n k
def R140_4:RegF:=λa e M n k=>e.g q1 λb=>v_eq b i6 λc=>Y e q2 c M n k
def R140_5:RegF:=λa e M n k=>oA (.fn s193 [] []) (e.t q9 (.fn s193 [] []) λe=>k e M n)
def R140_6:RegF:=λa e M n k=>e.g q1 λb=>v_eq b i1 λc=>Y e q3 c M n k
def R140_7:RegF:=λa e M n k=>e.g q1 λb=>v_eq b i7 λc=>Y e q3 c M n k
def R140_8:RegF:=λa e M n k=>oA (.fn s194 [] []) (e.t q9 (.fn s194 [] []) λe=>k e M n)
def R140_9:RegF:=λa e M n k=>e.g q1 λb=>v_eq b i2 λc=>Y e q4 c M n k
def R140_10:RegF:=λa e M n k=>e.g q1 λb=>v_eq b i3 λc=>Y e q4 c M n k
def R140_11:RegF:=λa e M n k=>oA (.fn s195 [] []) (e.t q9 (.fn s195 [] []) λe=>k e M n)
def R140_12:RegF:=λa e M n k=>e.g q1 λb=>v_eq b i5 λc=>Y e q5 c M n k
def R140_13:RegF:=λa e M n k=>oA (.fn s196 [] []) (e.t q9 (.fn s196 [] []) λe=>k e M n)
def R140_14:RegF:=λa e M n k=>e.g q1 λb=>v_eq b i8 λc=>Y e q6 c M n k
def R140_15:RegF:=λa e M n k=>oA (.fn s197 [] []) (e.t q9 (.fn s197 [] []) λe=>k e M n)
def R140_16:RegF:=λa e M n k=>e.g q1 λb=>v_eq b i9 λc=>Y e q7 c M n k
def R140_17:RegF:=λa e M n k=>oA (.fn s198 [] []) (e.t q9 (.fn s198 [] []) λe=>k e M n)
def R140_18:RegF:=λa e M n k=>e.g q1 λb=>v_eq b i10 λc=>Y e q8 c M n k
def R140_19:RegF:=λa e M n k=>oA (.fn s199 [] []) (e.t q9 (.fn s199 [] []) λe=>k e M n)
def S140:List (P × I):=[(s0,q0),(s3,q1),(s4,q2),(s8,q3),(s11,q4),(s14,q5),(s16,q6),(s18,q7),(s20,q8),(s2,q9)]
def G140:F2:=.mk ((c_seq (c_fn R140_0) (c_seq (c_seq (c_fn R140_1) (c_blk 0 (c_seq (c_seq (c_fn R140_2) (c_cond (.t q2) c_skip (c_seq (c_fn R140_3) (c_cond (.t q2) c_skip (c_fn R140_4))))) (c_cond (.t q2) (c_seq (c_fn R140_5) c_ret) (c_seq (c_seq (c_fn R140_6) (c_cond (.t q3) c_skip (c_fn R140_7))) (c_cond (.t q3) (c_seq (c_fn R140_8) c_ret) (c_seq (c_seq (c_fn R140_9) (c_cond (.t q4) c_skip (c_fn R140_10))) (c_cond (.t q4) (c_seq (c_fn R140_11) c_ret) (c_seq (c_fn R140_12) (c_cond (.t q5) (c_seq (c_fn R140_13) c_ret) (c_seq (c_fn R140_14) (c_cond (.t q6) (c_seq (c_fn R140_15) c_ret) (c_seq (c_fn R140_16) (c_cond (.t q7) (c_seq (c_fn R140_17) c_ret) (c_seq (c_fn R140_18) (c_cond (.t q8) (c_seq (c_fn R140_19) c_ret) c_skip)))))))))))))))) (c_seq (c_fn R140_0) c_ret)))) [.t q9] [q0]
def R141_5:RegF:=λa e M n k=>e.g q1 λb=>e.g q0 λc=>e.g q3 λd=>oA b (oA c (oA d (v_ixS c d 2 λf=>ldW M f 2 true λ_ g=>cvV a b [g] M n λh M n=>Z e q6 h M n k)))
def S141:List (P × I):=[(s0,q0),(s1,q1),(s8,q2),(s5,q3),(s7,q4),(s9,q5),(s16,q6),(s4,q7)]
def G141:F2:=.mk (λa e M n k=>R62_0 a e M n λe M n=>(λ(j0:K3)=>R62_2 a e M n λe M n=>(λ(j1:K3)=>loopK (λa e M n k=>R62_3 a e M n λe M n=>C e q5 (k (.x 0) e M n) (R62_4 a e M n λe M n=>R141_5 a e M n λe M n=>C e q6 (R14_15 a e M n λe M n=>k .n e M n) (R62_7 a e M n λe M n=>k .r e M n))) a e M n (X k j1 0)) j0) λe M n=>R62_1 a e M n λe M n=>k .r e M n) [.t q7] [q0,q1]
def R142_1:RegF:=λa e M n k=>e.g q0 λb=>oA b (mkmV M n λc M n=>v_bld [.nil,.nilm] [(0,1,b),(1,1,c)] λd=>bxV 302 d M n λf M n=>Y e q1 f M n k)
def S142:List (P × I):=[(s0,q0),(s2,q1)]
def G142:F2:=.mk (λa e M n k=>R94_0 a e M n λe M n=>R142_1 a e M n λe M n=>k .r e M n) [.t q1] [q0]
def R143_1:RegF:=λa e M n k=>e.g q0 λb=>oA b (v_bld (rep 17 .nil) [(0,1,b)] λc=>bxV 306 c M n λd M n=>Y e q1 d M n k)
def R143_2:RegF:=λa e M n k=>e.g q1 λb=>oA b (v_bld [bf,i0,i0,.nils] [(0,1,bt)] λc=>bxV 309 c M n λd M n=>v_nck b λf=>v_fa f 1 λg=>v_ixA g i0 16 1 λh=>stV M h d 1 λM=>k e M n)
def R143_3:RegF:=λa e M n k=>e.g q1 λb=>oA b (Y e q2 b M n k)
def S143:List (P × I):=[(s0,q0),(s3,q1),(s2,q2)]
def G143:F2:=.mk (λa e M n k=>R45_0 a e M n λe M n=>R143_1 a e M n λe M n=>R143_2 a e M n λe M n=>R143_3 a e M n λe M n=>k .r e M n) [.t q2] [q0]
def R144_0:RegF:=λa e M n k=>oA i0 (oA i0 (e.t q5 i0 λe=>Z e q6 i0 M n k))
def R144_2:RegF:=λa e M n k=>e.g q0 λb=>e.g q1 λc=>oA b (v_nck b λd=>v_fa d 1 λf=>L M f λg=>oA c (v_ixS g c 1 λh=>stV M h i1 1 λM=>k e M n))
def R144_3:RegF:=λa e M n k=>e.g q0 λb=>e.g q1 λc=>oA b (v_nck b λd=>v_fa d 0 λf=>L M f λg=>oA c (v_bld (rep 64 (.int .u8 (.ofNat 0))) [] λh=>v_ixS g c 64 λl=>stV M l h 64 λM=>k e M n))
def R144_4:RegF:=λa e M n k=>e.g q1 λb=>oA b (oA b (oA i0 (e.t q5 b λe=>Z e q6 i0 M n k)))
def R144_6:RegF:=λa e M n k=>e.g q0 λb=>oA b (v_nck b λc=>v_fa c 2 λd=>L M d λf=>v_lenS f λg=>v_lt i0 g λh=>Y e q3 h M n k)
def R144_7:RegF:=λa e M n k=>e.g q0 λb=>(λW=>oA b (v_nck b λc=>v_fa c 3 λd=>L M d λf=>oA b (v_nck b λg=>v_fa g 0 λh=>L M h λl=>v_lenS l λm=>v_lt f m λo=>oA o (bR (Z e q4 o M n k) (keptB W M []))))) M
def R144_8:RegF:=λa e M n k=>oA i0 (oA i3 (e.t q5 i0 λe=>Z e q6 i3 M n k))
def R144_9:RegF:=λa e M n k=>e.g q0 λb=>oA b (v_nck b λc=>v_fa c 3 λd=>L M d λf=>Y e q1 f M n k)
def R144_10:RegF:=λa e M n k=>e.g q0 λb=>oA b (v_nck b λc=>v_fa c 3 λd=>L M d λf=>v_add f i1 λg=>v_nck b λh=>v_fa h 3 λl=>stV M l g 1 λM=>k e M n)
def R144_11:RegF:=λa e M n k=>e.g q0 λb=>(λW=>oA b (v_nck b λc=>v_fa c 2 λd=>L M d λf=>oA b (v_nck b λg=>v_fa g 2 λh=>L M h λl=>v_lenS l λm=>v_sub m i1 λo=>v_ixS f o 1 λp=>L M p λq=>oA q (bR (Z e q1 q M n k) (keptB W M []))))) M
def R144_12:RegF:=λa e M n k=>e.g q0 λb=>(λW=>oA b (oA b (v_nck b λc=>v_fa c 2 λd=>L M d λf=>oA b (v_nck b λg=>v_fa g 2 λh=>L M h λl=>v_lenS l λm=>v_sub m i1 λo=>v_slH f o λp=>v_nck b λq=>v_fa q 2 λr=>bR (stV M r p 1 λM=>k e M n) (keptB W M []))))) M
def R144_13:RegF:=λa e M n k=>oA i0 (oA i1 (e.t q5 i0 λe=>Z e q6 i1 M n k))
def S144:List (P × I):=[(s0,q0),(s4,q1),(s5,q2),(s8,q3),(s41,q4),(s2,q5),(s3,q6)]
def G144:F2:=.mk (λa e M n k=>R144_0 a e M n λe M n=>R72_0 a e M n λe M n=>(λ(j0:K3)=>(λ(j1:K3)=>R98_1 a e M n λe M n=>(λ(j2:K3)=>C e q2 (R144_6 a e M n λe M n=>(λ(j3:K3)=>C e q3 (R144_7 a e M n λe M n=>C e q4 (R144_8 a e M n λe M n=>k .r e M n) (R144_9 a e M n λe M n=>R144_10 a e M n j3)) (R144_11 a e M n λe M n=>R144_12 a e M n j3)) j2) (R144_13 a e M n λe M n=>k .r e M n)) j1) j0) λe M n=>R144_2 a e M n λe M n=>R144_3 a e M n λe M n=>R144_4 a e M n λe M n=>k .r e M n) [.t q5,.t q6] [q0]
def R146_0:RegF:=λa e M n k=>Y e q5 bf M n k
def R146_2:RegF:=λa e M n k=>e.g q0 λb=>e.g q1 λc=>oA b (v_nck b λd=>v_fa d 0 λf=>L M f λg=>oA c (lkuV (.agg [i0,i0,bf]) true g c M λh=>oA h (v_ext h 0 λl=>v_ext h 1 λm=>alV 258 [i0,i0,bf] M n λo M n=>stV M o l 3 λM=>oA m (e.t q4 o λe=>Z e q3 m M n k))))
def R146_3:RegF:=λa e M n k=>e.g q3 λb=>e.g q4 λc=>oA b (oA b (gP b M n (v_fa c 2) λd M n=>gL b M n d λf M n=>gP b M n (v_not f) λg M n=>v_pick b g bf λh=>Y e q5 h M n k))
def S146:List (P × I):=[(s0,q0),(s1,q1),(s8,q2),(s6,q3),(s5,q4),(s4,q5)]
def G146:F2:=.mk (λa e M n k=>R146_0 a e M n λe M n=>R30_1 a e M n λe M n=>C e q2 (R146_2 a e M n λe M n=>R146_3 a e M n λe M n=>k .r e M n) (R146_0 a e M n λe M n=>k .r e M n)) [.t q5] [q0,q1]
def R147_0:RegF:=λa e M n k=>e.g q1 λb=>oA b (v_add b i1 λc=>Y e q3 c M n k)
def R147_1:RegF:=λa e M n k=>e.g q3 λb=>e.g q2 λc=>oA b (oA c (v_lt b c λd=>Z e q5 d M n k))
def R147_3:RegF:=λa e M n k=>e.g q3 λb=>oA b (Y e q4 b M n k)
def R147_4:RegF:=λa e M n k=>e.g q4 λb=>e.g q1 λc=>e.g q0 λd=>(λW=>oA b (oA c (v_lt c b λf=>oA f (gM f M n d λg M n=>gM f M n b λh M n=>gP f M n (v_ixS g h 1) λl M n=>gL f M n l λm M n=>gM f M n d λo M n=>gM f M n b λp M n=>gP f M n (v_sub p i1) λq M n=>gP f M n (v_ixS o q 1) λr M n=>gL f M n r λs M n=>gN f M n (λj=>callV a s153 [m,s] M n λv M n=>j v M n) λt M n=>v_pick f t bf λu=>bR (Z e q6 u M n k) (keptB W M []))))) M
def R147_5:RegF:=λa e M n k=>e.g q0 λb=>e.g q4 λc=>(λW=>oA b (oA c (oA b (oA c (v_sub c i1 λd=>oA b (oA c (v_sub c i1 λf=>v_ixS b f 1 λg=>L M g λh=>oA b (oA c (v_ixS b c 1 λl=>L M l λm=>v_ixS b c 1 λo=>stV M o h 1 λM=>v_ixS b d 1 λp=>bR (stV M p m 1 λM=>k e M n) (keptB W M [])))))))))) M
def R147_6:RegF:=λa e M n k=>e.g q4 λb=>oA b (v_sub b i1 λc=>Y e q4 c M n k)
def S147:List (P × I):=[(s0,q0),(s1,q1),(s2,q2),(s6,q3),(s7,q4),(s12,q5),(s30,q6)]
def G147:F2:=.mk (λa e M n k=>R147_0 a e M n λe M n=>(λ(j0:K3)=>loopK (λa e M n k=>R147_1 a e M n λe M n=>C e q5 (k (.x 0) e M n) ((λ(j1:K3)=>(λ(j2:K3)=>R147_3 a e M n λe M n=>(λ(j3:K3)=>loopK (λa e M n k=>R147_4 a e M n λe M n=>C e q6 (k (.x 2) e M n) (R147_5 a e M n λe M n=>R147_6 a e M n λe M n=>k .n e M n)) a e M n λex e M n=>Ex.rec (j3 e M n) (k .r e M n) (λid=>Bool.rec (Bool.rec (k (.x id) e M n) (j2 e M n) (Nat.beq id 1)) (j3 e M n) (Nat.beq id 2)) ex) j2) j1) λe M n=>R6_20 a e M n λe M n=>k .n e M n)) a e M n (X k j0 0)) λe M n=>k .n e M n) [] [q0,q1,q2]
def R153_1:RegF:=λa e M n k=>e.g q0 λb=>e.g q1 λc=>oA b (callV a s206 [b] M n λd M n=>oA d (gM d M n c λf M n=>gN d M n (λj=>callV a s206 [f] M n λv M n=>j v M n) λg M n=>gP d M n (v_not g) λh M n=>v_pick d h bf λl=>oA l (hM l M n b λm M n=>hM l M n c λo M n=>hP l M n (v_lt m o) λp M n=>v_pick l bt p λq=>Y e q2 q M n k)))
def S153:List (P × I):=[(s0,q0),(s1,q1),(s4,q2)]
def G153:F2:=.mk (λa e M n k=>R24_0 a e M n λe M n=>R153_1 a e M n λe M n=>k .r e M n) [.t q2] [q0,q1]
end
end Ast
