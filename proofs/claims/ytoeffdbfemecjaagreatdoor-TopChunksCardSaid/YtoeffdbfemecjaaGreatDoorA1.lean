/- Functions of the program in the words of the interpreter, printed by a program of mine; the first half. -/
import Derived.Test.YtoeffdbfemecjaaGreatDoorD3
set_option maxRecDepth 100000
set_option linter.unusedVariables false
namespace Ast
open Go Den
abbrev rep (n : Nat) (v : VV) : List VV := List.replicate n v
def s0 : P := .z
def s1 : P := .a s0
def s2 : P := .b s0
def s3 : P := .c s0
def s4 : P := .d s0
def s5 : P := .a s1
def s6 : P := .b s1
def s7 : P := .c s1
def s8 : P := .d s1
def s9 : P := .a s2
def s10 : P := .b s2
def s11 : P := .c s2
def s12 : P := .d s2
def s13 : P := .a s3
def s14 : P := .b s3
def s15 : P := .c s3
def s16 : P := .d s3
def s17 : P := .a s4
def s18 : P := .b s4
def s19 : P := .c s4
def s20 : P := .d s4
def s21 : P := .a s5
def s22 : P := .b s5
def s23 : P := .c s5
def s24 : P := .d s5
def s25 : P := .a s6
def s26 : P := .b s6
def s27 : P := .c s6
def s28 : P := .d s6
def s29 : P := .a s7
def s30 : P := .b s7
def s31 : P := .c s7
def s32 : P := .d s7
def s33 : P := .a s8
def s34 : P := .b s8
def s35 : P := .c s8
def s36 : P := .d s8
def s37 : P := .a s9
def s38 : P := .b s9
def s39 : P := .c s9
def s40 : P := .d s9
def s41 : P := .a s10
def s42 : P := .b s10
def s43 : P := .c s10
def s44 : P := .d s10
def s45 : P := .a s11
def s46 : P := .b s11
def s47 : P := .c s11
def s48 : P := .d s11
def s49 : P := .a s12
def s50 : P := .b s12
def s51 : P := .c s12
def s52 : P := .d s12
def s53 : P := .a s13
def s54 : P := .b s13
def s55 : P := .c s13
def s56 : P := .d s13
def s57 : P := .a s14
def s58 : P := .b s14
def s59 : P := .c s14
def s60 : P := .d s14
def s61 : P := .a s15
def s62 : P := .b s15
def s63 : P := .c s15
def s64 : P := .d s15
def s65 : P := .a s16
def s66 : P := .b s16
def s67 : P := .c s16
def s68 : P := .d s16
def s69 : P := .a s17
def s70 : P := .b s17
def s71 : P := .c s17
def s72 : P := .d s17
def s73 : P := .a s18
def s74 : P := .b s18
def s75 : P := .c s18
def s76 : P := .d s18
def s77 : P := .a s19
def s78 : P := .b s19
def s79 : P := .c s19
def s80 : P := .d s19
def s81 : P := .a s20
def s82 : P := .b s20
def s83 : P := .c s20
def s84 : P := .d s20
def s85 : P := .a s21
def s86 : P := .b s21
def s87 : P := .c s21
def s88 : P := .d s21
def s89 : P := .a s22
def s90 : P := .b s22
def s91 : P := .c s22
def s92 : P := .d s22
def s93 : P := .a s23
def s94 : P := .b s23
def s95 : P := .c s23
def s96 : P := .d s23
def s97 : P := .a s24
def s98 : P := .b s24
def s99 : P := .c s24
def s100 : P := .d s24
def s101 : P := .a s25
def s102 : P := .b s25
def s103 : P := .c s25
def s104 : P := .d s25
def s105 : P := .a s26
def s106 : P := .b s26
def s107 : P := .c s26
def s108 : P := .d s26
def s109 : P := .a s27
def s110 : P := .b s27
def s111 : P := .c s27
def s112 : P := .d s27
def s113 : P := .a s28
def s114 : P := .b s28
def s115 : P := .c s28
def s116 : P := .d s28
def s117 : P := .a s29
def s118 : P := .b s29
def s119 : P := .c s29
def s120 : P := .d s29
def s121 : P := .a s30
def s122 : P := .b s30
def s123 : P := .c s30
def s124 : P := .d s30
def s125 : P := .a s31
def s126 : P := .b s31
def s127 : P := .c s31
def s128 : P := .d s31
def s129 : P := .a s32
def s130 : P := .b s32
def s131 : P := .c s32
def s132 : P := .d s32
def s133 : P := .a s33
def s134 : P := .b s33
def s135 : P := .c s33
def s136 : P := .d s33
def s137 : P := .a s34
def s138 : P := .b s34
def s139 : P := .c s34
def s140 : P := .d s34
def s141 : P := .a s35
def s142 : P := .b s35
def s143 : P := .c s35
def s144 : P := .d s35
def s145 : P := .a s36
def s146 : P := .b s36
def s147 : P := .c s36
def s148 : P := .d s36
def s149 : P := .a s37
def s150 : P := .b s37
def s151 : P := .c s37
def s152 : P := .d s37
def s153 : P := .a s38
def s154 : P := .b s38
def s155 : P := .c s38
def s156 : P := .d s38
def s157 : P := .a s39
def s158 : P := .b s39
def s159 : P := .c s39
def s160 : P := .d s39
def s161 : P := .a s40
def s162 : P := .b s40
def s163 : P := .c s40
def s164 : P := .d s40
def s165 : P := .a s41
def s166 : P := .b s41
def s167 : P := .c s41
def s168 : P := .d s41
def s169 : P := .a s42
def s170 : P := .b s42
def s171 : P := .c s42
def s172 : P := .d s42
def s173 : P := .a s43
def s174 : P := .b s43
def s175 : P := .c s43
def s176 : P := .d s43
def s177 : P := .a s44
def s178 : P := .b s44
def s179 : P := .c s44
def s180 : P := .d s44
def s181 : P := .a s45
def s182 : P := .b s45
def s183 : P := .c s45
def s184 : P := .d s45
def s185 : P := .a s46
def s186 : P := .b s46
def s187 : P := .c s46
def s188 : P := .d s46
def s189 : P := .a s47
def s190 : P := .b s47
def s191 : P := .c s47
def s192 : P := .d s47
def s193 : P := .a s48
def s194 : P := .b s48
def s195 : P := .c s48
def s196 : P := .d s48
def s197 : P := .a s49
def s198 : P := .b s49
def s199 : P := .c s49
def s200 : P := .d s49
def s201 : P := .a s50
def s202 : P := .b s50
def s203 : P := .c s50
def s204 : P := .d s50
def s205 : P := .a s51
def s206 : P := .b s51
def s207 : P := .c s51
def s208 : P := .d s51
def s209 : P := .a s52
def s210 : P := .b s52
def s211 : P := .c s52
def s212 : P := .d s52
def s213 : P := .a s53
def s214 : P := .b s53
def s215 : P := .c s53
def s216 : P := .d s53
def s217 : P := .a s54
def s218 : P := .b s54
def s219 : P := .c s54
def s220 : P := .d s54
def s221 : P := .a s55
def s222 : P := .b s55
def s223 : P := .c s55
def s224 : P := .d s55
def s225 : P := .a s56
def s226 : P := .b s56
def s227 : P := .c s56
def s228 : P := .d s56
def s229 : P := .a s57
def s230 : P := .b s57
def s231 : P := .c s57
def s232 : P := .d s57
def s233 : P := .a s58
def s234 : P := .b s58
def s235 : P := .c s58
def s236 : P := .d s58
def s237 : P := .a s59
def s238 : P := .b s59
def s239 : P := .c s59
def s240 : P := .d s59
def s241 : P := .a s60
def s242 : P := .b s60
def s243 : P := .c s60
def s244 : P := .d s60
def s245 : P := .a s61
def s246 : P := .b s61
def s247 : P := .c s61
def s248 : P := .d s61
def s249 : P := .a s62
def s250 : P := .b s62
def s251 : P := .c s62
def s252 : P := .d s62
def s253 : P := .a s63
def s254 : P := .b s63
def s255 : P := .c s63
def s256 : P := .d s63
def s257 : P := .a s64
def s258 : P := .b s64
def s259 : P := .c s64
def s260 : P := .d s64
def s261 : P := .a s65
def s262 : P := .b s65
def s263 : P := .c s65
def s264 : P := .d s65
def s265 : P := .a s66
def s266 : P := .b s66
def s267 : P := .c s66
def s268 : P := .d s66
def s269 : P := .a s67
def s270 : P := .b s67
def s271 : P := .c s67
def s272 : P := .d s67
def s273 : P := .a s68
def s274 : P := .b s68
def s275 : P := .c s68
def s276 : P := .d s68
def s277 : P := .a s69
def s278 : P := .b s69
def s279 : P := .c s69
def s280 : P := .d s69
def s281 : P := .a s70
def s282 : P := .b s70
def s283 : P := .c s70
def s284 : P := .d s70
def s285 : P := .a s71
def s286 : P := .b s71
def s287 : P := .c s71
def s288 : P := .d s71
def s289 : P := .a s72
def s290 : P := .b s72
def s291 : P := .c s72
def s292 : P := .d s72
def s293 : P := .a s73
def s294 : P := .b s73
def s295 : P := .c s73
def s296 : P := .d s73
def s297 : P := .a s74
def s298 : P := .b s74
def s299 : P := .c s74
def s300 : P := .d s74
def s301 : P := .a s75
def s302 : P := .b s75
def s303 : P := .c s75
def s304 : P := .d s75
def s305 : P := .a s76
def s306 : P := .b s76
def s307 : P := .c s76
def s308 : P := .d s76
def s309 : P := .a s77
def s310 : P := .b s77
def s311 : P := .c s77
def s312 : P := .d s77
def s313 : P := .a s78
def s314 : P := .b s78
def s315 : P := .c s78
def s316 : P := .d s78
def s317 : P := .a s79
def s318 : P := .b s79
def s319 : P := .c s79
def s320 : P := .d s79
def s321 : P := .a s80
def s322 : P := .b s80
def s323 : P := .c s80
def s324 : P := .d s80
def s325 : P := .a s81
def s326 : P := .b s81
def s327 : P := .c s81
def s328 : P := .d s81
def s329 : P := .a s82
def s330 : P := .b s82
def s331 : P := .c s82
def s332 : P := .d s82
def s333 : P := .a s83
def s334 : P := .b s83
def s335 : P := .c s83
def s336 : P := .d s83
def s337 : P := .a s84
def s338 : P := .b s84
def s339 : P := .c s84
def s340 : P := .d s84
def s341 : P := .a s85
def s342 : P := .b s85
def s343 : P := .c s85
def s344 : P := .d s85
def s345 : P := .a s86
def s346 : P := .b s86
def s347 : P := .c s86
def s348 : P := .d s86
def s349 : P := .a s87
def s350 : P := .b s87
def s351 : P := .c s87
def s352 : P := .d s87
def s353 : P := .a s88
def s354 : P := .b s88
def s355 : P := .c s88
def s356 : P := .d s88
def s357 : P := .a s89
def s358 : P := .b s89
def s359 : P := .c s89
def s360 : P := .d s89
def s361 : P := .a s90
def s362 : P := .b s90
def s363 : P := .c s90
def s364 : P := .d s90
def s365 : P := .a s91
def s366 : P := .b s91
def s367 : P := .c s91
def s368 : P := .d s91
def s369 : P := .a s92
def s370 : P := .b s92
def s371 : P := .c s92
def s372 : P := .d s92
def s373 : P := .a s93
def s374 : P := .b s93
def s375 : P := .c s93
def s376 : P := .d s93
def s377 : P := .a s94
def s378 : P := .b s94
def s379 : P := .c s94
def s380 : P := .d s94
def s381 : P := .a s95
def s382 : P := .b s95
def s383 : P := .c s95
def s384 : P := .d s95
def s385 : P := .a s96
def s386 : P := .b s96
def s387 : P := .c s96
def s388 : P := .d s96
def s389 : P := .a s97
def s390 : P := .b s97
def s391 : P := .c s97
def s392 : P := .d s97
def s393 : P := .a s98
def s394 : P := .b s98
def s395 : P := .c s98
def s396 : P := .d s98
def s397 : P := .a s99
def s398 : P := .b s99
def s399 : P := .c s99
def s400 : P := .d s99
def s401 : P := .a s100
def s402 : P := .b s100
def s403 : P := .c s100
def s404 : P := .d s100
def s405 : P := .a s101
def s406 : P := .b s101
def s407 : P := .c s101
def s408 : P := .d s101
def s409 : P := .a s102
def q0 : I := .i0
def q1 : I := .i1
def q2 : I := .i2
def q3 : I := .i3
def q4 : I := .i4
def q5 : I := .i5
def q6 : I := .i6
def q7 : I := .i7
def q8 : I := .nx q0
def q9 : I := .nx q1
def q10 : I := .nx q2
def q11 : I := .nx q3
def q12 : I := .nx q4
def q13 : I := .nx q5
def q14 : I := .nx q6
def q15 : I := .nx q7
def q16 : I := .nx q8
def q17 : I := .nx q9
def q18 : I := .nx q10
def q19 : I := .nx q11
def q20 : I := .nx q12
def q21 : I := .nx q13
def q22 : I := .nx q14
def q23 : I := .nx q15
def q24 : I := .nx q16
def q25 : I := .nx q17
def q26 : I := .nx q18
def q27 : I := .nx q19
noncomputable section
def R4_0 : RegF := fun a e M n k => VV.onAny (.bool false) (e.setK q13 (.bool false) fun e => k e M n)
def R4_1 : RegF := fun a e M n k => e.getK q0 fun v0 => VV.onAny v0 (callV a s7 [v0, (.i (.ofNat 46))] M n fun v1 M n => VV.onAny v1 (e.setK q1 v1 fun e => k e M n))
def R4_2 : RegF := fun a e M n k => VV.onAny (.str []) (e.setK q5 (.str []) fun e => k e M n)
def R4_3 : RegF := fun a e M n k => v_bld [.nils, .nils, .nils, .nils, (.i (.ofNat 0)), (.i (.ofNat 0))] [(4, 1, (.i (.ofNat 16))), (5, 1, (.i (.ofNat 100000)))] fun v0 => alV 30 [.nils, .nils, .nils, .nils, (.i (.ofNat 0)), (.i (.ofNat 0))] M n fun v1 M n => stV M v1 v0 6 fun M => e.setK q2 v1 fun e => k e M n
def R4_4 : RegF := fun a e M n k => e.getK q2 fun v0 => callV a s13 [(.i (.ofNat 2))] M n fun v1 M n => v_bld [(.i (.ofNat 0)), (.i (.ofNat 0)), (.i (.ofNat 0)), (.i (.ofNat 0)), (.i (.ofNat 0)), (.i (.ofNat 0)), .nils, .nils] [(0, 1, (.i (.ofNat 2))), (1, 1, (.i (.ofNat 9))), (2, 1, (.i (.ofNat 500))), (3, 1, (.i (.ofNat 500))), (4, 1, (.i (.ofNat 2))), (5, 1, (.i (.negSucc 0))), (7, 1, v1)] fun v2 => bslV 37 8 1 [(.i (.ofNat 0)), (.i (.ofNat 0)), (.i (.ofNat 0)), (.i (.ofNat 0)), (.i (.ofNat 0)), (.i (.ofNat 0)), .nils, .nils] [(0, 8, v2)] M n fun v3 M n => v_fa v0 0 fun v4 => stV M v4 v3 1 fun M => k e M n
def R4_5 : RegF := fun a e M n k => e.getK q5 fun v0 => e.getK q2 fun v1 => v_bld [(.i (.ofNat 0)), (.i (.ofNat 0)), (.i (.ofNat 0)), (.str []), (.str [])] [(0, 1, (.i (.ofNat 1))), (3, 1, (.str [47, 102])), (1, 1, (.i (.ofNat 1)))] fun v2 => v_bld [(.i (.ofNat 0)), (.i (.ofNat 0)), (.i (.ofNat 0)), (.i (.ofNat 0)), (.i (.ofNat 0)), (.i (.ofNat 0)), (.i (.ofNat 0)), (.str []), (.str [])] [(0, 1, (.i (.ofNat 10))), (4, 5, v2)] fun v3 => VV.onAny v0 (v_bld [(.i (.ofNat 0)), (.i (.ofNat 0)), (.i (.ofNat 0)), (.str []), (.str [])] [(0, 1, (.i (.ofNat 4))), (3, 1, v0)] fun v4 => v_bld [(.i (.ofNat 0)), (.i (.ofNat 0)), (.i (.ofNat 0)), (.i (.ofNat 0)), (.i (.ofNat 0)), (.i (.ofNat 0)), (.i (.ofNat 0)), (.str []), (.str [])] [(0, 1, (.i (.ofNat 10))), (4, 5, v4)] fun v5 => v_bld [(.i (.ofNat 0)), (.i (.ofNat 0)), (.i (.ofNat 0)), (.i (.ofNat 0)), (.i (.ofNat 0)), (.i (.ofNat 0)), (.i (.ofNat 0)), (.str []), (.str [])] [(0, 1, (.i (.ofNat 1))), (1, 1, (.i (.ofNat 900)))] fun v6 => bslV 34 9 3 (rep 7 (.i (.ofNat 0)) ++ [(.str []), (.str [])] ++ rep 7 (.i (.ofNat 0)) ++ [(.str []), (.str [])] ++ rep 7 (.i (.ofNat 0)) ++ [(.str []), (.str [])]) [(0, 9, v3), (9, 9, v5), (18, 9, v6)] M n fun v7 M n => v_bld [(.i (.ofNat 0)), .nils] [(1, 1, v7)] fun v8 => bslV 39 2 1 [(.i (.ofNat 0)), .nils] [(0, 2, v8)] M n fun v9 M n => v_fa v1 1 fun v10 => stV M v10 v9 1 fun M => k e M n)
def R4_6 : RegF := fun a e M n k => e.getK q2 fun v0 => e.getK q1 fun v1 => (fun M0 => ldV M v0 6 true fun bv2 v2 => VV.onAny v1 (callV a s9 [v1, (.i (.ofNat 0))] M n fun v3 M n => bslV 48 3 1 [(.i (.ofNat 0)), (.i (.ofNat 0)), (.i (.ofNat 0))] [(0, 3, v3)] M n fun v4 M n => callV a s8 [v2, v4, (.i (.ofNat 60))] M n fun v5 M n => alV 45 [.nils, .nils, .nils, (.i (.ofNat 0))] M n fun v6 M n => Bool.rec false (stV M v6 v5 4 fun M => e.setK q3 v6 fun e => k e M n) (keptB M0 M (bv2 :: [])))) M
def R4_7 : RegF := fun a e M n k => e.getK q3 fun v0 => v_fa v0 1 fun v1 => ldV M v1 1 false fun _ v2 => callV a s10 [v2, (.i (.ofNat 0))] M n fun v3 M n => VV.onAny v3 (v_ext v3 0 fun v4 => v_ext v3 1 fun v5 => alV 52 [(.i (.ofNat 0)), (.i (.ofNat 0)), (.i (.ofNat 0)), (.i (.ofNat 0)), (.i (.ofNat 0)), (.bool false)] M n fun v6 M n => stV M v6 v4 6 fun M => VV.onAny v5 (e.setK q10 v6 fun e => e.setK q9 v5 fun e => k e M n))
def R4_8 : RegF := fun a e M n k => e.getK q1 fun v0 => VV.onAny v0 (VV.onAny v0 (e.setK q11 v0 fun e => k e M n))
def R4_9 : RegF := fun a e M n k => e.getK q3 fun v0 => e.getK q9 fun v1 => e.getK q10 fun v2 => e.getK q11 fun v3 => v_fa v0 3 fun v4 => ldV M v4 1 false fun _ v5 => v_ne v5 (.i (.ofNat 0)) fun v6 => VV.onAny v6 (gdK v6 false .off M n (fun j => v_mv v1 fun v => j v M n) fun v7 M n => gdK v6 false .off M n (fun j => v_not v7 fun v => j v M n) fun v8 M n => v_pick v6 (.bool true) v8 fun v9 => VV.onAny v9 (gdK v9 false .off M n (fun j => v_fa v2 3 fun v => j v M n) fun v10 M n => gdK v9 false .off M n (fun j => ldV M v10 1 false fun _ v => j v M n) fun v11 M n => gdK v9 false .off M n (fun j => v_mv v3 fun v => j v M n) fun v12 M n => gdK v9 false .off M n (fun j => v_add v12 (.i (.ofNat 2)) fun v => j v M n) fun v13 M n => gdK v9 false .off M n (fun j => v_ne v11 v13 fun v => j v M n) fun v14 M n => v_pick v9 (.bool true) v14 fun v15 => VV.onAny v15 (gdK v15 false .off M n (fun j => v_fa v0 2 fun v => j v M n) fun v16 M n => gdK v15 false .off M n (fun j => ldV M v16 1 false fun _ v => j v M n) fun v17 M n => gdK v15 false .off M n (fun j => v_lenS v17 fun v => j v M n) fun v18 M n => gdK v15 false .off M n (fun j => v_ne v18 (.i (.ofNat 2)) fun v => j v M n) fun v19 M n => v_pick v15 (.bool true) v19 fun v20 => e.setK q12 v20 fun e => k e M n)))
def R4_10 : RegF := fun a e M n k => e.getK q3 fun v0 => e.getK q2 fun v1 => (fun M0 => v_fa v0 2 fun v2 => ldV M v2 1 false fun _ v3 => v_ixS v3 (.i (.ofNat 1)) 11 fun v4 => ldV M v4 11 true fun _ v5 => v_fa v1 1 fun v6 => ldV M v6 1 false fun _ v7 => v_ixS v7 (.i (.ofNat 0)) 2 fun v8 => v_fa v8 1 fun v9 => ldV M v9 1 false fun _ v10 => v_ixS v10 (.i (.ofNat 1)) 9 fun v11 => v_fa v11 4 fun v12 => ldV M v12 5 true fun _ v13 => v_bld [(.i (.ofNat 0)), (.i (.ofNat 0)), (.str [])] [(1, 1, (.i (.ofNat 512)))] fun v14 => v_bld [(.i (.ofNat 0)), (.i (.ofNat 0)), (.i (.ofNat 0)), (.i (.ofNat 0)), (.i (.ofNat 0)), (.i (.ofNat 0)), (.str []), (.str []), (.i (.ofNat 0)), (.i (.ofNat 0)), (.str [])] [(0, 1, (.i (.ofNat 52))), (1, 1, (.i (.ofNat 1))), (2, 1, (.i (.ofNat 10))), (3, 5, v13), (8, 3, v14)] fun v15 => v_aeq false [(0, .i), (1, .i), (2, .i), (3, .i), (4, .i), (5, .i), (6, .s), (7, .s), (8, .i), (9, .i), (10, .s)] v5 v15 fun v16 => VV.onAny v16 (gdK v16 true .no M n (fun j => callV a s12 [] M n fun v M n => j v M n) fun v17 M n => v_pick v16 v17 (.bool false) fun v18 => VV.onAny v18 (Bool.rec false (e.setK q13 v18 fun e => k e M n) (keptB M0 M [])))) M
def R4_11 : RegF := fun a e M n k => VV.onAny (.bool false) (e.setK q13 (.bool false) fun e => k e M n)
def R4_12 : RegF := fun a e M n k => e.getK q1 fun v0 => VV.onAny v0 (v_lt (.i (.ofNat 0)) v0 fun v1 => VV.onAny v1 (gdK v1 true .off M n (fun j => v_mv v0 fun v => j v M n) fun v2 M n => gdK v1 true .off M n (fun j => v_lt v2 (.i (.ofNat 3)) fun v => j v M n) fun v3 M n => v_pick v1 v3 (.bool false) fun v4 => e.setK q7 v4 fun e => k e M n))
def R4_13 : RegF := fun a e M n k => e.getK q1 fun v0 => VV.onAny v0 (v_lt (.i (.ofNat 3)) v0 fun v1 => e.setK q8 v1 fun e => k e M n)
def R4_14 : RegF := fun a e M n k => e.getK q1 fun v0 => VV.onAny v0 (v_sub v0 (.i (.ofNat 3)) fun v1 => v_add v1 (.i (.ofNat 5)) fun v2 => v_quo v2 (.i (.ofNat 6)) fun v3 => v_mul v3 (.i (.ofNat 6)) fun v4 => v_add (.i (.ofNat 3)) v4 fun v5 => VV.onAny v5 (e.setK q11 v5 fun e => k e M n))
def R4_15 : RegF := fun a e M n k => VV.onAny (.i (.ofNat 3)) (e.setK q11 (.i (.ofNat 3)) fun e => k e M n)
def R4_16 : RegF := fun a e M n k => VV.onAny (.i (.ofNat 0)) (e.setK q4 (.i (.ofNat 0)) fun e => k e M n)
def R4_17 : RegF := fun a e M n k => e.getK q4 fun v0 => VV.onAny v0 (v_lt v0 (.i (.ofNat 512)) fun v1 => e.setK q6 v1 fun e => k e M n)
def R4_18 : RegF := fun a e M n k => e.getK q5 fun v0 => VV.onAny v0 (v_cat v0 (.str [120]) fun v1 => VV.onAny v1 (e.setK q5 v1 fun e => k e M n))
def R4_19 : RegF := fun a e M n k => e.getK q4 fun v0 => VV.onAny v0 (v_add v0 (.i (.ofNat 1)) fun v1 => VV.onAny v1 (e.setK q4 v1 fun e => k e M n))
def S4 : List (P × I) := [(s0, q0), (s3, q1), (s6, q2), (s7, q3), (s5, q4), (s4, q5), (s14, q6), (s51, q7), (s53, q8), (s9, q9), (s8, q10), (s10, q11), (s79, q12), (s2, q13)]
def G4 : F2 := .mk (fun a e M n k => R4_0 a e M n fun e M n => R4_1 a e M n fun e M n => R4_2 a e M n fun e M n => (fun (j0 : En → Mem → P → Bool) => R4_16 a e M n fun e M n => (fun (j4 : En → Mem → P → Bool) => loopK (fun a e M n k => R4_17 a e M n fun e M n => e.getK q6 fun v => v.onB fun c => Bool.rec (k (.x 0) e M n) (R4_18 a e M n fun e M n => R4_19 a e M n fun e M n => k .n e M n) c) a e M n fun ex e M n => Ex.rec (j4 e M n) (k .r e M n) (fun id => Bool.rec (k (.x id) e M n) (j4 e M n) (Nat.beq id 0)) ex) fun e M n => j0 e M n) fun e M n => R4_3 a e M n fun e M n => R4_4 a e M n fun e M n => R4_5 a e M n fun e M n => R4_6 a e M n fun e M n => R4_7 a e M n fun e M n => R4_8 a e M n fun e M n => (fun (j1 : En → Mem → P → Bool) => R4_12 a e M n fun e M n => (fun (j2 : En → Mem → P → Bool) => e.getK q7 fun v => v.onB fun c => Bool.rec (R4_13 a e M n fun e M n => (fun (j3 : En → Mem → P → Bool) => e.getK q8 fun v => v.onB fun c => Bool.rec (j3 e M n) (R4_14 a e M n fun e M n => j3 e M n) c) fun e M n => j2 e M n) (R4_15 a e M n fun e M n => j2 e M n) c) fun e M n => j1 e M n) fun e M n => R4_9 a e M n fun e M n => e.getK q12 fun v => v.onB fun c => Bool.rec (R4_10 a e M n fun e M n => k .r e M n) (R4_11 a e M n fun e M n => k .r e M n) c) [.t q13] [q0]
def G7 : F2 := .spec (lowS)
def R8_0 : RegF := fun a e M n k => e.getK q0 fun v0 => bxV 30 v0 M n fun v1 M n => alV 45 [.nils, .nils, .nils, (.i (.ofNat 0))] M n fun v2 M n => e.setK q4 v1 fun e => e.setK q3 v2 fun e => k e M n
def R8_1 : RegF := fun a e M n k => e.getK q4 fun v0 => e.getK q1 fun v1 => e.getK q2 fun v2 => ldV M v0 6 true fun _ v3 => VV.onAny v1 (VV.onAny v2 (callV a s18 [v3, v1, v2] M n fun v4 M n => VV.onAny v4 (v_ext v4 0 fun v5 => v_ext v4 1 fun v6 => v_ext v4 2 fun v7 => v_ext v4 3 fun v8 => VV.onAny v5 (VV.onAny v6 (VV.onAny v7 (VV.onAny v8 (e.setK q5 v5 fun e => e.setK q6 v6 fun e => e.setK q7 v7 fun e => e.setK q8 v8 fun e => k e M n)))))))
def R8_2 : RegF := fun a e M n k => e.getK q5 fun v0 => e.getK q6 fun v1 => e.getK q7 fun v2 => e.getK q8 fun v3 => e.getK q3 fun v4 => VV.onAny v0 (VV.onAny v1 (VV.onAny v2 (VV.onAny v3 (v_bld [.nils, .nils, .nils, (.i (.ofNat 0))] [(0, 1, v0), (1, 1, v1), (2, 1, v2), (3, 1, v3)] fun v5 => stV M v4 v5 4 fun M => k e M n))))
def S8 : List (P × I) := [(s0, q0), (s1, q1), (s2, q2), (s6, q3), (s3, q4), (s7, q5), (s8, q6), (s9, q7), (s10, q8)]
def G8 : F2 := .mk (fun a e M n k => R8_0 a e M n fun e M n => R8_1 a e M n fun e M n => R8_2 a e M n fun e M n => k .r e M n) [.c q3 4 true] [q0, q1, q2]
def R9_0 : RegF := fun a e M n k => alV 48 [(.i (.ofNat 0)), (.i (.ofNat 0)), (.i (.ofNat 0))] M n fun v0 M n => e.setK q2 v0 fun e => k e M n
def R9_1 : RegF := fun a e M n k => e.getK q0 fun v0 => e.getK q1 fun v1 => e.getK q2 fun v2 => VV.onAny v0 (VV.onAny v1 (v_bld [(.i (.ofNat 0)), (.i (.ofNat 0)), (.i (.ofNat 0))] [(0, 1, v0), (1, 1, (.i (.negSucc 0))), (2, 1, v1)] fun v3 => stV M v2 v3 3 fun M => k e M n))
def S9 : List (P × I) := [(s0, q0), (s1, q1), (s4, q2)]
def G9 : F2 := .mk (fun a e M n k => R9_0 a e M n fun e M n => R9_1 a e M n fun e M n => k .r e M n) [.c q2 3 true] [q0, q1]
def R10_0 : RegF := fun a e M n k => alV 52 [(.i (.ofNat 0)), (.i (.ofNat 0)), (.i (.ofNat 0)), (.i (.ofNat 0)), (.i (.ofNat 0)), (.bool false)] M n fun v0 M n => VV.onAny (.bool false) (e.setK q3 v0 fun e => e.setK q6 (.bool false) fun e => k e M n)
def R10_1 : RegF := fun a e M n k => e.getK q3 fun v0 => v_bld [(.i (.ofNat 0)), (.i (.ofNat 0)), (.i (.ofNat 0)), (.i (.ofNat 0)), (.i (.ofNat 0)), (.bool false)] [] fun v1 => stV M v0 v1 6 fun M => VV.onAny (.bool false) (e.setK q6 (.bool false) fun e => k e M n)
def R10_2 : RegF := fun a e M n k => VV.onAny (.i (.ofNat 0)) (e.setK q2 (.i (.ofNat 0)) fun e => k e M n)
def R10_3 : RegF := fun a e M n k => e.getK q2 fun v0 => e.getK q0 fun v1 => VV.onAny v0 (VV.onAny v1 (v_lenS v1 fun v2 => v_lt v0 v2 fun v3 => e.setK q4 v3 fun e => k e M n))
def R10_4 : RegF := fun a e M n k => e.getK q0 fun v0 => e.getK q2 fun v1 => e.getK q1 fun v2 => VV.onAny v0 (VV.onAny v1 (v_ixS v0 v1 6 fun v3 => v_fa v3 0 fun v4 => ldV M v4 1 false fun _ v5 => VV.onAny v2 (v_eq v5 v2 fun v6 => e.setK q5 v6 fun e => k e M n)))
def R10_5 : RegF := fun a e M n k => e.getK q2 fun v0 => VV.onAny v0 (v_add v0 (.i (.ofNat 1)) fun v1 => VV.onAny v1 (e.setK q2 v1 fun e => k e M n))
def R10_6 : RegF := fun a e M n k => e.getK q0 fun v0 => e.getK q2 fun v1 => e.getK q3 fun v2 => VV.onAny v0 (VV.onAny v1 (v_ixS v0 v1 6 fun v3 => ldV M v3 6 true fun _ v4 => stV M v2 v4 6 fun M => VV.onAny (.bool true) (e.setK q6 (.bool true) fun e => k e M n)))
def S10 : List (P × I) := [(s0, q0), (s1, q1), (s6, q2), (s4, q3), (s10, q4), (s19, q5), (s5, q6)]
def G10 : F2 := .mk (fun a e M n k => R10_0 a e M n fun e M n => (fun (j0 : En → Mem → P → Bool) => R10_2 a e M n fun e M n => (fun (j1 : En → Mem → P → Bool) => loopK (fun a e M n k => R10_3 a e M n fun e M n => e.getK q4 fun v => v.onB fun c => Bool.rec (k (.x 0) e M n) (R10_4 a e M n fun e M n => e.getK q5 fun v => v.onB fun c => Bool.rec (R10_5 a e M n fun e M n => k .n e M n) (R10_6 a e M n fun e M n => k .r e M n) c) c) a e M n fun ex e M n => Ex.rec (j1 e M n) (k .r e M n) (fun id => Bool.rec (k (.x id) e M n) (j1 e M n) (Nat.beq id 0)) ex) fun e M n => j0 e M n) fun e M n => R10_1 a e M n fun e M n => k .r e M n) [.c q3 6 true, .t q6] [q0, q1]
def R12_0 : RegF := fun a e M n k => VV.onAny (.bool false) (e.setK q4 (.bool false) fun e => k e M n)
def R12_1 : RegF := fun a e M n k => callV a s19 [] M n fun v0 M n => v_bld [(.i (.ofNat 0)), (.i (.ofNat 0)), (.i (.ofNat 0))] [(0, 1, (.i (.ofNat 2))), (1, 1, (.i (.negSucc 0)))] fun v1 => bslV 48 3 1 [(.i (.ofNat 0)), (.i (.ofNat 0)), (.i (.ofNat 0))] [(0, 3, v1)] M n fun v2 M n => callV a s18 [v0, v2, (.i (.ofNat 8))] M n fun v3 M n => VV.onAny v3 (v_ext v3 0 fun v4 => v_ext v3 1 fun v5 => v_ext v3 2 fun v6 => v_ext v3 3 fun v7 => VV.onAny v4 (VV.onAny v5 (VV.onAny v6 (VV.onAny v7 (e.setK q2 v4 fun e => e.setK q0 v5 fun e => e.setK q1 v7 fun e => k e M n)))))
def R12_2 : RegF := fun a e M n k => e.getK q1 fun v0 => e.getK q2 fun v1 => e.getK q0 fun v2 => VV.onAny v0 (v_ne v0 (.i (.ofNat 0)) fun v3 => VV.onAny v3 (gdK v3 false .off M n (fun j => v_mv v1 fun v => j v M n) fun v4 M n => gdK v3 false .off M n (fun j => v_bld [(.i (.ofNat 0)), (.bool false)] [(0, 1, (.i (.ofNat 1)))] fun v => j v M n) fun v5 M n => gdK v3 false .off M n (fun j => v_bld [(.i (.ofNat 0)), (.bool false)] [(0, 1, (.i (.ofNat 1)))] fun v => j v M n) fun v6 M n => gdK v3 false .off M n (fun j => v_bld [(.i (.ofNat 0)), (.bool false)] [(0, 1, (.i (.ofNat 1)))] fun v => j v M n) fun v7 M n => gdK v3 false .off M n (fun j => v_bld [(.i (.ofNat 0)), (.bool false)] [(0, 1, (.i (.ofNat 1)))] fun v => j v M n) fun v8 M n => gdK v3 false .off M n (fun j => v_bld [(.i (.ofNat 0)), (.bool false)] [(0, 1, (.i (.ofNat 1)))] fun v => j v M n) fun v9 M n => gdK v3 false .off M n (fun j => v_bld [(.i (.ofNat 0)), (.bool false)] [] fun v => j v M n) fun v10 M n => gdK v3 false .off M n (fun j => v_bld [(.i (.ofNat 0)), (.bool false)] [] fun v => j v M n) fun v11 M n => gdK v3 false .off M n (fun j => v_bld [(.i (.ofNat 0)), (.bool false)] [] fun v => j v M n) fun v12 M n => gdK v3 false .no M n (fun j => bslV 67 2 8 ([(.i (.ofNat 0)), (.bool false), (.i (.ofNat 0)), (.bool false), (.i (.ofNat 0)), (.bool false), (.i (.ofNat 0)), (.bool false), (.i (.ofNat 0)), (.bool false), (.i (.ofNat 0)), (.bool false), (.i (.ofNat 0)), (.bool false), (.i (.ofNat 0)), (.bool false)]) [(0, 2, v5), (2, 2, v6), (4, 2, v7), (6, 2, v8), (8, 2, v9), (10, 2, v10), (12, 2, v11), (14, 2, v12)] M n fun v M n => j v M n) fun v13 M n => gdK v3 false .no M n (fun j => callV a s20 [v4, v13] M n fun v M n => j v M n) fun v14 M n => gdK v3 false .off M n (fun j => v_not v14 fun v => j v M n) fun v15 M n => v_pick v3 (.bool true) v15 fun v16 => VV.onAny v16 (gdK v16 false .off M n (fun j => v_mv v2 fun v => j v M n) fun v17 M n => gdK v16 false .off M n (fun j => v_lenS v17 fun v => j v M n) fun v18 M n => gdK v16 false .off M n (fun j => v_ne v18 (.i (.ofNat 1)) fun v => j v M n) fun v19 M n => v_pick v16 (.bool true) v19 fun v20 => e.setK q3 v20 fun e => k e M n)))
def R12_3 : RegF := fun a e M n k => e.getK q0 fun v0 => VV.onAny v0 (v_ixS v0 (.i (.ofNat 0)) 6 fun v1 => ldV M v1 6 true fun _ v2 => callV a s21 [v2] M n fun v3 M n => v_not v3 fun v4 => VV.onAny v4 (gdK v4 true .off M n (fun j => v_mv v0 fun v => j v M n) fun v5 M n => gdK v4 true .off M n (fun j => v_ixS v5 (.i (.ofNat 0)) 6 fun v => j v M n) fun v6 M n => gdK v4 true .off M n (fun j => v_fa v6 3 fun v => j v M n) fun v7 M n => gdK v4 true .off M n (fun j => ldV M v7 1 false fun _ v => j v M n) fun v8 M n => gdK v4 true .off M n (fun j => v_eq v8 (.i (.ofNat 8)) fun v => j v M n) fun v9 M n => v_pick v4 v9 (.bool false) fun v10 => VV.onAny v10 (gdK v10 true .off M n (fun j => v_bld [(.i (.ofNat 0)), .nils, .nils, .nils, .nils] [] fun v => j v M n) fun v11 M n => gdK v10 true .no M n (fun j => callV a s22 [v11] M n fun v M n => j v M n) fun v12 M n => v_pick v10 v12 (.bool false) fun v13 => VV.onAny v13 (e.setK q4 v13 fun e => k e M n))))
def R12_4 : RegF := fun a e M n k => VV.onAny (.bool false) (e.setK q4 (.bool false) fun e => k e M n)
def S12 : List (P × I) := [(s2, q0), (s4, q1), (s1, q2), (s34, q3), (s0, q4)]
def G12 : F2 := .mk (fun a e M n k => R12_0 a e M n fun e M n => R12_1 a e M n fun e M n => R12_2 a e M n fun e M n => e.getK q3 fun v => v.onB fun c => Bool.rec (R12_3 a e M n fun e M n => k .r e M n) (R12_4 a e M n fun e M n => k .r e M n) c) [.t q4] []
def R13_0 : RegF := fun a e M n k => VV.onAny (.nils) (e.setK q2 (.nils) fun e => k e M n)
def R13_1 : RegF := fun a e M n k => e.getK q0 fun v0 => VV.onAny v0 (v_le v0 (.i (.ofNat 1)) fun v1 => e.setK q1 v1 fun e => k e M n)
def R13_2 : RegF := fun a e M n k => e.getK q0 fun v0 => VV.onAny v0 (v_sub v0 (.i (.ofNat 1)) fun v1 => v_bld [(.i (.ofNat 0)), (.i (.ofNat 0)), (.i (.ofNat 0)), (.i (.ofNat 0)), (.i (.ofNat 0)), (.i (.ofNat 0)), (.i (.ofNat 0)), (.str []), (.str [])] [(0, 1, (.i (.ofNat 1))), (1, 1, v1)] fun v2 => v_bld [(.i (.ofNat 0)), (.i (.ofNat 0)), (.i (.ofNat 0)), (.i (.ofNat 0)), (.i (.ofNat 0)), (.i (.ofNat 0)), (.i (.ofNat 0)), (.str []), (.str [])] [(0, 1, (.i (.ofNat 4)))] fun v3 => bslV 34 9 2 (rep 7 (.i (.ofNat 0)) ++ [(.str []), (.str [])] ++ rep 7 (.i (.ofNat 0)) ++ [(.str []), (.str [])]) [(0, 9, v2), (9, 9, v3)] M n fun v4 M n => VV.onAny v4 (e.setK q2 v4 fun e => k e M n))
def R13_3 : RegF := fun a e M n k => v_bld [(.i (.ofNat 0)), (.i (.ofNat 0)), (.i (.ofNat 0)), (.i (.ofNat 0)), (.i (.ofNat 0)), (.i (.ofNat 0)), (.i (.ofNat 0)), (.str []), (.str [])] [(0, 1, (.i (.ofNat 4)))] fun v0 => bslV 34 9 1 [(.i (.ofNat 0)), (.i (.ofNat 0)), (.i (.ofNat 0)), (.i (.ofNat 0)), (.i (.ofNat 0)), (.i (.ofNat 0)), (.i (.ofNat 0)), (.str []), (.str [])] [(0, 9, v0)] M n fun v1 M n => VV.onAny v1 (e.setK q2 v1 fun e => k e M n)
def S13 : List (P × I) := [(s0, q0), (s4, q1), (s2, q2)]
def G13 : F2 := .mk (fun a e M n k => R13_0 a e M n fun e M n => R13_1 a e M n fun e M n => e.getK q1 fun v => v.onB fun c => Bool.rec (R13_2 a e M n fun e M n => k .r e M n) (R13_3 a e M n fun e M n => k .r e M n) c) [.t q2] [q0]
def R15_0 : RegF := fun a e M n k => alV 67 [(.i (.ofNat 0)), (.bool false)] M n fun v0 M n => e.setK q2 v0 fun e => k e M n
def R15_1 : RegF := fun a e M n k => e.getK q0 fun v0 => VV.onAny v0 (v_nqP false v0 fun v1 => VV.onAny v1 (gdK v1 false .off M n (fun j => v_mv v0 fun v => j v M n) fun v2 M n => gdK v1 false .off M n (fun j => v_nck v2 fun v => j v M n) fun v3 M n => gdK v1 false .off M n (fun j => v_fa v3 1 fun v => j v M n) fun v4 M n => gdK v1 false .off M n (fun j => ldV M v4 1 false fun _ v => j v M n) fun v5 M n => gdK v1 false .off M n (fun j => v_eq v5 (.i (.ofNat 16777215)) fun v => j v M n) fun v6 M n => v_pick v1 (.bool true) v6 fun v7 => e.setK q6 v7 fun e => k e M n))
def R15_2 : RegF := fun a e M n k => e.getK q0 fun v0 => VV.onAny v0 (v_nck v0 fun v1 => v_fa v1 21 fun v2 => stV M v2 (.bool false) 1 fun M => k e M n)
def R15_3 : RegF := fun a e M n k => e.getK q0 fun v0 => VV.onAny v0 (callV a s28 [v0] M n fun v1 M n => alV 67 [(.i (.ofNat 0)), (.bool false)] M n fun v2 M n => stV M v2 v1 2 fun M => e.setK q23 v2 fun e => k e M n)
def R15_4 : RegF := fun a e M n k => e.getK q0 fun v0 => (fun M0 => VV.onAny v0 (v_nck v0 fun v1 => v_fa v1 9 fun v2 => ldV M v2 1 false fun _ v3 => VV.onAny v0 (v_nck v0 fun v4 => v_fa v4 1 fun v5 => ldV M v5 1 false fun _ v6 => callV a s32 [v3, v6] M n fun v7 M n => Bool.rec false (k e M n) (keptB M0 M [])))) M
def R15_5 : RegF := fun a e M n k => e.getK q0 fun v0 => VV.onAny v0 (v_nck v0 fun v1 => v_fa v1 1 fun v2 => ldV M v2 1 false fun _ v3 => v_add v3 (.i (.ofNat 1)) fun v4 => v_nck v0 fun v5 => v_fa v5 1 fun v6 => stV M v6 v4 1 fun M => k e M n)
def R15_6 : RegF := fun a e M n k => e.getK q23 fun v0 => e.getK q2 fun v1 => ldV M v0 2 true fun _ v2 => stV M v1 v2 2 fun M => k e M n
def R15_7 : RegF := fun a e M n k => e.getK q0 fun v0 => VV.onAny v0 (v_nck v0 fun v1 => v_fa v1 21 fun v2 => ldV M v2 1 false fun _ v3 => VV.onAny v3 (gdK v3 false .off M n (fun j => v_mv v0 fun v => j v M n) fun v4 M n => gdK v3 false .off M n (fun j => v_nck v4 fun v => j v M n) fun v5 M n => gdK v3 false .off M n (fun j => v_fa v5 2 fun v => j v M n) fun v6 M n => gdK v3 false .off M n (fun j => ldV M v6 1 false fun _ v => j v M n) fun v7 M n => gdK v3 false .no M n (fun j => callV a s29 [v7, (.fn s30 [] [])] M n fun v M n => j v M n) fun v8 M n => gdK v3 false .off M n (fun j => v_not v8 fun v => j v M n) fun v9 M n => v_pick v3 (.bool true) v9 fun v10 => e.setK q22 v10 fun e => k e M n))
def R15_8 : RegF := fun a e M n k => e.getK q0 fun v0 => (fun M0 => VV.onAny v0 (v_nck v0 fun v1 => v_fa v1 9 fun v2 => ldV M v2 1 false fun _ v3 => VV.onAny v0 (v_nck v0 fun v4 => v_fa v4 1 fun v5 => ldV M v5 1 false fun _ v6 => callV a s31 [v3, v6] M n fun v7 M n => Bool.rec false (k e M n) (keptB M0 M [])))) M
def R15_9 : RegF := fun a e M n k => e.getK q1 fun v0 => VV.onAny v0 (v_lenS v0 fun v1 => VV.onAny (.i (.ofNat 0)) (e.setK q20 v0 fun e => e.setK q18 v1 fun e => e.setK q5 (.i (.ofNat 0)) fun e => k e M n))
def R15_10 : RegF := fun a e M n k => e.getK q5 fun v0 => e.getK q18 fun v1 => v_lt v0 v1 fun v2 => e.setK q19 v2 fun e => k e M n
def R15_11 : RegF := fun a e M n k => e.getK q20 fun v0 => e.getK q5 fun v1 => v_ixS v0 v1 3 fun v2 => ldV M v2 3 true fun _ v3 => alV 48 [(.i (.ofNat 0)), (.i (.ofNat 0)), (.i (.ofNat 0))] M n fun v4 M n => stV M v4 v3 3 fun M => e.setK q21 v4 fun e => k e M n
def R15_12 : RegF := fun a e M n k => e.getK q0 fun v0 => e.getK q21 fun v1 => VV.onAny v0 (ldV M v1 3 true fun _ v2 => callV a s27 [v0, v2] M n fun v3 M n => k e M n)
def R15_13 : RegF := fun a e M n k => e.getK q5 fun v0 => v_add v0 (.i (.ofNat 1)) fun v1 => VV.onAny v1 (e.setK q5 v1 fun e => k e M n)
def R15_14 : RegF := fun a e M n k => e.getK q0 fun v0 => VV.onAny v0 (v_nck v0 fun v1 => v_fa v1 8 fun v2 => ldV M v2 1 false fun _ v3 => v_lenS v3 fun v4 => VV.onAny (.i (.ofNat 0)) (e.setK q16 v3 fun e => e.setK q14 v4 fun e => e.setK q4 (.i (.ofNat 0)) fun e => k e M n))
def R15_15 : RegF := fun a e M n k => e.getK q4 fun v0 => e.getK q14 fun v1 => v_lt v0 v1 fun v2 => e.setK q15 v2 fun e => k e M n
def R15_16 : RegF := fun a e M n k => e.getK q16 fun v0 => e.getK q4 fun v1 => v_ixS v0 v1 1 fun v2 => ldV M v2 1 false fun _ v3 => VV.onAny v3 (e.setK q17 v3 fun e => k e M n)
def R15_17 : RegF := fun a e M n k => e.getK q17 fun v0 => e.getK q0 fun v1 => VV.onAny v0 (VV.onAny v1 (v_nck v1 fun v2 => v_fa v2 1 fun v3 => ldV M v3 1 false fun _ v4 => callV a s26 [v0, v4] M n fun v5 M n => k e M n))
def R15_18 : RegF := fun a e M n k => e.getK q4 fun v0 => v_add v0 (.i (.ofNat 1)) fun v1 => VV.onAny v1 (e.setK q4 v1 fun e => k e M n)
def R15_19 : RegF := fun a e M n k => e.getK q0 fun v0 => VV.onAny v0 (v_nck v0 fun v1 => v_fa v1 1 fun v2 => ldV M v2 1 false fun _ v3 => v_lt (.i (.ofNat 0)) v3 fun v4 => e.setK q7 v4 fun e => k e M n)
def R15_20 : RegF := fun a e M n k => e.getK q0 fun v0 => VV.onAny v0 (v_nck v0 fun v1 => v_fa v1 7 fun v2 => ldV M v2 1 false fun _ v3 => callV a s24 [v3] M n fun v4 M n => VV.onAny v4 (v_ext v4 0 fun v5 => v_ext v4 1 fun v6 => VV.onAny v5 (VV.onAny v6 (e.setK q8 v5 fun e => k e M n))))
def R15_21 : RegF := fun a e M n k => e.getK q0 fun v0 => VV.onAny v0 (v_mkf s25 [v0] [] fun v1 => VV.onAny v1 (e.setK q12 v1 fun e => k e M n))
def R15_22 : RegF := fun a e M n k => e.getK q8 fun v0 => VV.onAny v0 (v_lenS v0 fun v1 => VV.onAny (.i (.ofNat 0)) (e.setK q11 v0 fun e => e.setK q9 v1 fun e => e.setK q3 (.i (.ofNat 0)) fun e => k e M n))
def R15_23 : RegF := fun a e M n k => e.getK q3 fun v0 => e.getK q9 fun v1 => v_lt v0 v1 fun v2 => e.setK q10 v2 fun e => k e M n
def R15_24 : RegF := fun a e M n k => e.getK q11 fun v0 => e.getK q3 fun v1 => v_ixS v0 v1 1 fun v2 => ldV M v2 1 false fun _ v3 => VV.onAny v3 (e.setK q13 v3 fun e => k e M n)
def R15_25 : RegF := fun a e M n k => e.getK q12 fun v0 => e.getK q13 fun v1 => VV.onAny v0 (VV.onAny v1 (cvV a v0 [v1] M n fun v2 M n => k e M n))
def R15_26 : RegF := fun a e M n k => e.getK q3 fun v0 => v_add v0 (.i (.ofNat 1)) fun v1 => VV.onAny v1 (e.setK q3 v1 fun e => k e M n)
def R15_27 : RegF := fun a e M n k => e.getK q2 fun v0 => v_bld [(.i (.ofNat 0)), (.bool false)] [(0, 1, (.i (.negSucc 0)))] fun v1 => stV M v0 v1 2 fun M => k e M n
def S15 : List (P × I) := [(s0, q0), (s1, q1), (s4, q2), (s45, q3), (s58, q4), (s71, q5), (s23, q6), (s32, q7), (s5, q8), (s44, q9), (s46, q10), (s43, q11), (s7, q12), (s9, q13), (s57, q14), (s59, q15), (s56, q16), (s11, q17), (s70, q18), (s72, q19), (s69, q20), (s13, q21), (s92, q22), (s14, q23)]
def G15 : F2 := .mk (fun a e M n k => R15_0 a e M n fun e M n => R15_1 a e M n fun e M n => e.getK q6 fun v => v.onB fun c => Bool.rec (R15_2 a e M n fun e M n => (fun (j0 : En → Mem → P → Bool) => R15_19 a e M n fun e M n => (fun (j7 : En → Mem → P → Bool) => e.getK q7 fun v => v.onB fun c => Bool.rec (j7 e M n) (R15_20 a e M n fun e M n => R15_21 a e M n fun e M n => R15_22 a e M n fun e M n => (fun (j8 : En → Mem → P → Bool) => loopK (fun a e M n k => R15_23 a e M n fun e M n => e.getK q10 fun v => v.onB fun c => Bool.rec (k (.x 0) e M n) (R15_24 a e M n fun e M n => R15_25 a e M n fun e M n => R15_26 a e M n fun e M n => k .n e M n) c) a e M n fun ex e M n => Ex.rec (j8 e M n) (k .r e M n) (fun id => Bool.rec (k (.x id) e M n) (j8 e M n) (Nat.beq id 0)) ex) fun e M n => j7 e M n) c) fun e M n => j0 e M n) fun e M n => (fun (j1 : En → Mem → P → Bool) => R15_14 a e M n fun e M n => (fun (j6 : En → Mem → P → Bool) => loopK (fun a e M n k => R15_15 a e M n fun e M n => e.getK q15 fun v => v.onB fun c => Bool.rec (k (.x 2) e M n) (R15_16 a e M n fun e M n => R15_17 a e M n fun e M n => R15_18 a e M n fun e M n => k .n e M n) c) a e M n fun ex e M n => Ex.rec (j6 e M n) (k .r e M n) (fun id => Bool.rec (k (.x id) e M n) (j6 e M n) (Nat.beq id 2)) ex) fun e M n => j1 e M n) fun e M n => (fun (j2 : En → Mem → P → Bool) => R15_9 a e M n fun e M n => (fun (j5 : En → Mem → P → Bool) => loopK (fun a e M n k => R15_10 a e M n fun e M n => e.getK q19 fun v => v.onB fun c => Bool.rec (k (.x 4) e M n) (R15_11 a e M n fun e M n => R15_12 a e M n fun e M n => R15_13 a e M n fun e M n => k .n e M n) c) a e M n fun ex e M n => Ex.rec (j5 e M n) (k .r e M n) (fun id => Bool.rec (k (.x id) e M n) (j5 e M n) (Nat.beq id 4)) ex) fun e M n => j2 e M n) fun e M n => R15_3 a e M n fun e M n => (fun (j3 : En → Mem → P → Bool) => R15_7 a e M n fun e M n => (fun (j4 : En → Mem → P → Bool) => e.getK q22 fun v => v.onB fun c => Bool.rec (j4 e M n) (R15_8 a e M n fun e M n => j4 e M n) c) fun e M n => j3 e M n) fun e M n => R15_4 a e M n fun e M n => R15_5 a e M n fun e M n => R15_6 a e M n fun e M n => k .r e M n) (R15_27 a e M n fun e M n => k .r e M n) c) [.c q2 2 true] [q0, q1]
def R17_0 : RegF := fun a e M n k => VV.onAny (.nils) (e.setK q10 (.nils) fun e => k e M n)
def R17_1 : RegF := fun a e M n k => e.getK q0 fun v0 => VV.onAny v0 (v_nqP false v0 fun v1 => e.setK q4 v1 fun e => k e M n)
def R17_2 : RegF := fun a e M n k => VV.onAny (.nils) (e.setK q2 (.nils) fun e => k e M n)
def R17_3 : RegF := fun a e M n k => VV.onAny (.nils) (e.setK q3 (.nils) fun e => k e M n)
def R17_4 : RegF := fun a e M n k => e.getK q2 fun v0 => e.getK q3 fun v1 => e.getK q0 fun v2 => VV.onAny v0 (VV.onAny v1 (VV.onAny v2 (v_nck v2 fun v3 => v_fa v3 5 fun v4 => ldV M v4 1 false fun _ v5 => callV a s35 [v5] M n fun v6 M n => callV a s34 [v0, v1, v6] M n fun v7 M n => VV.onAny v7 (e.setK q10 v7 fun e => k e M n))))
def R17_5 : RegF := fun a e M n k => e.getK q0 fun v0 => VV.onAny v0 (v_nck v0 fun v1 => v_fa v1 2 fun v2 => ldV M v2 1 false fun _ v3 => v_lenS v3 fun v4 => VV.onAny (.i (.ofNat 0)) (e.setK q7 v3 fun e => e.setK q5 v4 fun e => e.setK q1 (.i (.ofNat 0)) fun e => k e M n))
def R17_6 : RegF := fun a e M n k => e.getK q1 fun v0 => e.getK q5 fun v1 => v_lt v0 v1 fun v2 => e.setK q6 v2 fun e => k e M n
def R17_7 : RegF := fun a e M n k => e.getK q1 fun v0 => e.getK q7 fun v1 => VV.onAny v0 (v_ixS v1 v0 21 fun v2 => ldV M v2 21 true fun _ v3 => alV 109 (rep 9 (.i (.ofNat 0)) ++ [(.bool false), (.i (.ofNat 0)), (.i (.ofNat 0)), (.i (.ofNat 0)), (.str []), (.bool false), (.i (.ofNat 0)), (.i (.ofNat 0)), (.i (.ofNat 0)), (.i (.ofNat 0)), (.i (.ofNat 0)), .nils]) M n fun v4 M n => VV.onAny v0 (stV M v4 v3 21 fun M => e.setK q8 v4 fun e => e.setK q9 v0 fun e => k e M n))
def R17_8 : RegF := fun a e M n k => e.getK q2 fun v0 => e.getK q8 fun v1 => VV.onAny v0 (v_fa v1 2 fun v2 => ldV M v2 3 true fun _ v3 => bslV 73 3 1 [(.i (.ofNat 0)), (.i (.ofNat 0)), (.i (.ofNat 0))] [(0, 3, v3)] M n fun v4 M n => appV 73 3 24 v0 v4 M n fun v5 M n => VV.onAny v5 (e.setK q2 v5 fun e => k e M n))
def R17_9 : RegF := fun a e M n k => e.getK q3 fun v0 => e.getK q0 fun v1 => e.getK q9 fun v2 => VV.onAny v0 (VV.onAny v1 (v_nck v1 fun v3 => v_fa v3 5 fun v4 => ldV M v4 1 false fun _ v5 => VV.onAny v2 (callV a s33 [v5, v2] M n fun v6 M n => bslV 3 1 1 [(.i (.ofNat 0))] [(0, 1, v6)] M n fun v7 M n => appV 3 1 8 v0 v7 M n fun v8 M n => VV.onAny v8 (e.setK q3 v8 fun e => k e M n))))
def R17_10 : RegF := fun a e M n k => e.getK q1 fun v0 => v_add v0 (.i (.ofNat 1)) fun v1 => VV.onAny v1 (e.setK q1 v1 fun e => k e M n)
def R17_11 : RegF := fun a e M n k => VV.onAny (.nils) (e.setK q10 (.nils) fun e => k e M n)
def S17 : List (P × I) := [(s0, q0), (s14, q1), (s3, q2), (s4, q3), (s8, q4), (s13, q5), (s15, q6), (s12, q7), (s6, q8), (s5, q9), (s2, q10)]
def G17 : F2 := .mk (fun a e M n k => R17_0 a e M n fun e M n => R17_1 a e M n fun e M n => e.getK q4 fun v => v.onB fun c => Bool.rec (R17_2 a e M n fun e M n => R17_3 a e M n fun e M n => (fun (j0 : En → Mem → P → Bool) => R17_5 a e M n fun e M n => (fun (j1 : En → Mem → P → Bool) => loopK (fun a e M n k => R17_6 a e M n fun e M n => e.getK q6 fun v => v.onB fun c => Bool.rec (k (.x 0) e M n) (R17_7 a e M n fun e M n => R17_8 a e M n fun e M n => R17_9 a e M n fun e M n => R17_10 a e M n fun e M n => k .n e M n) c) a e M n fun ex e M n => Ex.rec (j1 e M n) (k .r e M n) (fun id => Bool.rec (k (.x id) e M n) (j1 e M n) (Nat.beq id 0)) ex) fun e M n => j0 e M n) fun e M n => R17_4 a e M n fun e M n => k .r e M n) (R17_11 a e M n fun e M n => k .r e M n) c) [.t q10] [q0]
def R18_0 : RegF := fun a e M n k => e.getK q0 fun v0 => bxV 30 v0 M n fun v1 M n => VV.onAny (.nils) (VV.onAny (.nils) (VV.onAny (.nils) (VV.onAny (.i (.ofNat 0)) (e.setK q5 v1 fun e => e.setK q7 (.nils) fun e => e.setK q8 (.nils) fun e => e.setK q9 (.nils) fun e => e.setK q10 (.i (.ofNat 0)) fun e => k e M n))))
def R18_1 : RegF := fun a e M n k => e.getK q5 fun v0 => ldV M v0 6 true fun _ v1 => callV a s36 [v1] M n fun v2 M n => VV.onAny v2 (v_ext v2 0 fun v3 => v_ext v2 1 fun v4 => VV.onAny v3 (VV.onAny v4 (e.setK q4 v3 fun e => e.setK q3 v4 fun e => k e M n)))
def R18_2 : RegF := fun a e M n k => e.getK q3 fun v0 => VV.onAny v0 (v_ne v0 (.i (.ofNat 0)) fun v1 => e.setK q6 v1 fun e => k e M n)
def R18_3 : RegF := fun a e M n k => e.getK q4 fun v0 => e.getK q1 fun v1 => e.getK q2 fun v2 => VV.onAny v0 (VV.onAny v1 (VV.onAny v2 (callV a s37 [v0, v1, v2] M n fun v3 M n => k e M n)))
def R18_4 : RegF := fun a e M n k => e.getK q4 fun v0 => (fun M0 => VV.onAny v0 (v_nck v0 fun v1 => v_fa v1 1 fun v2 => ldV M v2 1 false fun bv3 v3 => VV.onAny v0 (v_nck v0 fun v4 => v_fa v4 0 fun v5 => ldV M v5 1 false fun _ v6 => callV a s38 [v6] M n fun v7 M n => VV.onAny v0 (v_nck v0 fun v8 => v_fa v8 0 fun v9 => ldV M v9 1 false fun bv10 v10 => callV a s39 [v10] M n fun v11 M n => VV.onAny v3 (VV.onAny v7 (VV.onAny v11 (VV.onAny (.i (.ofNat 0)) (Bool.rec false (e.setK q7 v3 fun e => e.setK q8 v7 fun e => e.setK q9 v11 fun e => e.setK q10 (.i (.ofNat 0)) fun e => k e M n) (keptB M0 M (bv10 :: (bv3 :: []))))))))))) M
def R18_5 : RegF := fun a e M n k => e.getK q3 fun v0 => VV.onAny v0 (VV.onAny (.nils) (VV.onAny (.nils) (VV.onAny (.nils) (VV.onAny v0 (e.setK q7 (.nils) fun e => e.setK q8 (.nils) fun e => e.setK q9 (.nils) fun e => e.setK q10 v0 fun e => k e M n)))))
def S18 : List (P × I) := [(s0, q0), (s1, q1), (s2, q2), (s11, q3), (s10, q4), (s3, q5), (s18, q6), (s6, q7), (s7, q8), (s8, q9), (s9, q10)]
def G18 : F2 := .mk (fun a e M n k => R18_0 a e M n fun e M n => R18_1 a e M n fun e M n => R18_2 a e M n fun e M n => e.getK q6 fun v => v.onB fun c => Bool.rec (R18_3 a e M n fun e M n => R18_4 a e M n fun e M n => k .r e M n) (R18_5 a e M n fun e M n => k .r e M n) c) [.t q7, .t q8, .t q9, .t q10] [q0, q1, q2]
def R19_0 : RegF := fun a e M n k => alV 30 [.nils, .nils, .nils, .nils, (.i (.ofNat 0)), (.i (.ofNat 0))] M n fun v0 M n => e.setK q0 v0 fun e => k e M n
def R19_1 : RegF := fun a e M n k => v_bld [(.i (.ofNat 0)), (.i (.ofNat 0)), (.i (.ofNat 0)), (.i (.ofNat 0)), (.i (.ofNat 0)), (.i (.ofNat 0)), (.i (.ofNat 0)), (.str []), (.str [])] [(0, 1, (.i (.ofNat 2)))] fun v0 => v_bld [(.i (.ofNat 0)), (.i (.ofNat 0)), (.i (.ofNat 0)), (.i (.ofNat 0)), (.i (.ofNat 0)), (.i (.ofNat 0)), (.i (.ofNat 0)), (.str []), (.str [])] [(0, 1, (.i (.ofNat 1))), (1, 1, (.i (.ofNat 3)))] fun v1 => v_bld [(.i (.ofNat 0)), (.i (.ofNat 0)), (.i (.ofNat 0)), (.i (.ofNat 0)), (.i (.ofNat 0)), (.i (.ofNat 0)), (.i (.ofNat 0)), (.str []), (.str [])] [(0, 1, (.i (.ofNat 3)))] fun v2 => bslV 34 9 3 (rep 7 (.i (.ofNat 0)) ++ [(.str []), (.str [])] ++ rep 7 (.i (.ofNat 0)) ++ [(.str []), (.str [])] ++ rep 7 (.i (.ofNat 0)) ++ [(.str []), (.str [])]) [(0, 9, v0), (9, 9, v1), (18, 9, v2)] M n fun v3 M n => VV.onAny v3 (e.setK q2 v3 fun e => k e M n)
def R19_2 : RegF := fun a e M n k => v_bld [(.i (.ofNat 0)), (.i (.ofNat 0)), (.i (.ofNat 0)), (.i (.ofNat 0)), (.i (.ofNat 0)), (.i (.ofNat 0)), (.i (.ofNat 0)), (.str []), (.str [])] [(0, 1, (.i (.ofNat 2)))] fun v0 => v_bld [(.i (.ofNat 0)), (.i (.ofNat 0)), (.i (.ofNat 0)), (.i (.ofNat 0)), (.i (.ofNat 0)), (.i (.ofNat 0)), (.i (.ofNat 0)), (.str []), (.str [])] [(0, 1, (.i (.ofNat 3)))] fun v1 => bslV 34 9 2 (rep 7 (.i (.ofNat 0)) ++ [(.str []), (.str [])] ++ rep 7 (.i (.ofNat 0)) ++ [(.str []), (.str [])]) [(0, 9, v0), (9, 9, v1)] M n fun v2 M n => VV.onAny v2 (e.setK q1 v2 fun e => k e M n)
def R19_3 : RegF := fun a e M n k => e.getK q1 fun v0 => e.getK q2 fun v1 => e.getK q0 fun v2 => v_bld [(.i (.ofNat 0)), (.i (.ofNat 0))] [(0, 1, (.i (.ofNat 1))), (1, 1, (.i (.ofNat 9)))] fun v3 => bslV 24 2 1 [(.i (.ofNat 0)), (.i (.ofNat 0))] [(0, 2, v3)] M n fun v4 M n => bslV 3 1 1 [(.i (.ofNat 0))] [(0, 1, (.i (.ofNat 0)))] M n fun v5 M n => VV.onAny v0 (v_bld [(.i (.ofNat 0)), (.i (.ofNat 0)), (.i (.ofNat 0)), (.i (.ofNat 0)), (.i (.ofNat 0)), (.i (.ofNat 0)), .nils, .nils] [(0, 1, (.i (.ofNat 2))), (1, 1, (.i (.ofNat 9))), (2, 1, (.i (.ofNat 50))), (3, 1, (.i (.ofNat 40))), (4, 1, (.i (.ofNat 5))), (5, 1, (.i (.negSucc 0))), (6, 1, v5), (7, 1, v0)] fun v6 => bslV 37 8 1 [(.i (.ofNat 0)), (.i (.ofNat 0)), (.i (.ofNat 0)), (.i (.ofNat 0)), (.i (.ofNat 0)), (.i (.ofNat 0)), .nils, .nils] [(0, 8, v6)] M n fun v7 M n => VV.onAny v1 (v_bld [(.i (.ofNat 0)), .nils] [(1, 1, v1)] fun v8 => bslV 39 2 1 [(.i (.ofNat 0)), .nils] [(0, 2, v8)] M n fun v9 M n => v_bld [.nils, .nils, .nils, .nils, (.i (.ofNat 0)), (.i (.ofNat 0))] [(4, 1, (.i (.ofNat 8))), (5, 1, (.i (.ofNat 100))), (2, 1, v4), (0, 1, v7), (1, 1, v9)] fun v10 => stV M v2 v10 6 fun M => k e M n))
def S19 : List (P × I) := [(s0, q0), (s2, q1), (s1, q2)]
def G19 : F2 := .mk (fun a e M n k => R19_0 a e M n fun e M n => R19_1 a e M n fun e M n => R19_2 a e M n fun e M n => R19_3 a e M n fun e M n => k .r e M n) [.c q0 6 true] []
def R20_0 : RegF := fun a e M n k => VV.onAny (.bool false) (e.setK q6 (.bool false) fun e => k e M n)
def R20_1 : RegF := fun a e M n k => e.getK q0 fun v0 => e.getK q1 fun v1 => VV.onAny v0 (v_lenS v0 fun v2 => VV.onAny v1 (v_lenS v1 fun v3 => v_ne v2 v3 fun v4 => e.setK q3 v4 fun e => k e M n))
def R20_2 : RegF := fun a e M n k => VV.onAny (.bool true) (e.setK q6 (.bool true) fun e => k e M n)
def R20_3 : RegF := fun a e M n k => VV.onAny (.i (.ofNat 0)) (e.setK q2 (.i (.ofNat 0)) fun e => k e M n)
def R20_4 : RegF := fun a e M n k => e.getK q2 fun v0 => e.getK q0 fun v1 => VV.onAny v0 (VV.onAny v1 (v_lenS v1 fun v2 => v_lt v0 v2 fun v3 => e.setK q4 v3 fun e => k e M n))
def R20_5 : RegF := fun a e M n k => e.getK q0 fun v0 => e.getK q2 fun v1 => e.getK q1 fun v2 => (fun M0 => VV.onAny v0 (VV.onAny v1 (v_ixS v0 v1 2 fun v3 => ldV M v3 2 true fun _ v4 => VV.onAny v2 (VV.onAny v1 (v_ixS v2 v1 2 fun v5 => ldV M v5 2 true fun _ v6 => v_aeq true [(0, .i), (1, .b)] v4 v6 fun v7 => Bool.rec false (e.setK q5 v7 fun e => k e M n) (keptB M0 M [])))))) M
def R20_6 : RegF := fun a e M n k => e.getK q2 fun v0 => VV.onAny v0 (v_add v0 (.i (.ofNat 1)) fun v1 => VV.onAny v1 (e.setK q2 v1 fun e => k e M n))
def R20_7 : RegF := fun a e M n k => VV.onAny (.bool false) (e.setK q6 (.bool false) fun e => k e M n)
def R20_8 : RegF := fun a e M n k => VV.onAny (.bool false) (e.setK q6 (.bool false) fun e => k e M n)
def S20 : List (P × I) := [(s0, q0), (s1, q1), (s5, q2), (s10, q3), (s14, q4), (s25, q5), (s4, q6)]
def G20 : F2 := .mk (fun a e M n k => R20_0 a e M n fun e M n => R20_1 a e M n fun e M n => e.getK q3 fun v => v.onB fun c => Bool.rec ((fun (j0 : En → Mem → P → Bool) => R20_3 a e M n fun e M n => (fun (j1 : En → Mem → P → Bool) => loopK (fun a e M n k => R20_4 a e M n fun e M n => e.getK q4 fun v => v.onB fun c => Bool.rec (k (.x 0) e M n) (R20_5 a e M n fun e M n => e.getK q5 fun v => v.onB fun c => Bool.rec (R20_6 a e M n fun e M n => k .n e M n) (R20_7 a e M n fun e M n => k .r e M n) c) c) a e M n fun ex e M n => Ex.rec (j1 e M n) (k .r e M n) (fun id => Bool.rec (k (.x id) e M n) (j1 e M n) (Nat.beq id 0)) ex) fun e M n => j0 e M n) fun e M n => R20_2 a e M n fun e M n => k .r e M n) (R20_8 a e M n fun e M n => k .r e M n) c) [.t q6] [q0, q1]
def R21_0 : RegF := fun a e M n k => e.getK q0 fun v0 => bxV 52 v0 M n fun v1 M n => VV.onAny (.bool false) (e.setK q1 v1 fun e => e.setK q2 (.bool false) fun e => k e M n)
def R21_1 : RegF := fun a e M n k => e.getK q1 fun v0 => v_fa v0 3 fun v1 => ldV M v1 1 false fun _ v2 => v_fa v0 2 fun v3 => ldV M v3 1 false fun _ v4 => v_lt v4 v2 fun v5 => VV.onAny v5 (e.setK q2 v5 fun e => k e M n)
def S21 : List (P × I) := [(s0, q0), (s1, q1), (s2, q2)]
def G21 : F2 := .mk (fun a e M n k => R21_0 a e M n fun e M n => R21_1 a e M n fun e M n => k .r e M n) [.t q2] [q0]
def R22_0 : RegF := fun a e M n k => e.getK q0 fun v0 => bxV 84 v0 M n fun v1 M n => VV.onAny (.bool false) (e.setK q1 v1 fun e => e.setK q2 (.bool false) fun e => k e M n)
def R22_1 : RegF := fun a e M n k => e.getK q1 fun v0 => (fun M0 => ldV M v0 5 true fun _ v1 => callV a s41 [v1] M n fun v2 M n => v_fa v0 2 fun v3 => ldV M v3 1 false fun bv4 v4 => v_fa v0 1 fun v5 => ldV M v5 1 false fun bv6 v6 => v_lenS v6 fun v7 => callV a s40 [v2, v4, v7] M n fun v8 M n => VV.onAny v8 (Bool.rec false (e.setK q2 v8 fun e => k e M n) (keptB M0 M (bv6 :: (bv4 :: []))))) M
def S22 : List (P × I) := [(s0, q0), (s1, q1), (s2, q2)]
def G22 : F2 := .mk (fun a e M n k => R22_0 a e M n fun e M n => R22_1 a e M n fun e M n => k .r e M n) [.t q2] [q0]
def R23_0 : RegF := fun a e M n k => e.getK q0 fun v0 => bxV 30 v0 M n fun v1 M n => VV.onAny (.nil) (VV.onAny (.i (.ofNat 0)) (e.setK q2 v1 fun e => e.setK q26 (.nil) fun e => e.setK q27 (.i (.ofNat 0)) fun e => k e M n))
def R23_1 : RegF := fun a e M n k => e.getK q2 fun v0 => ldV M v0 6 true fun _ v1 => callV a s42 [v1] M n fun v2 M n => v_not v2 fun v3 => e.setK q8 v3 fun e => k e M n
def R23_2 : RegF := fun a e M n k => v_bld ([.nils, (.i (.ofNat 0)), .nils, .nils, .nil, .nil, .nil, .nil, .nils, .nil, .nil, .nils, .nils, (.i (.ofNat 0)), .nils, .nils, .nils, .nils, (.i (.ofNat 0)), (.i (.ofNat 0)), (.i (.ofNat 0)), (.bool false)] ++ rep 8 (.i (.ofNat 0))) [] fun v0 => bxV 99 v0 M n fun v1 M n => VV.onAny v1 (e.setK q1 v1 fun e => k e M n)
def R23_3 : RegF := fun a e M n k => e.getK q1 fun v0 => e.getK q2 fun v1 => VV.onAny v0 (v_fa v1 2 fun v2 => ldV M v2 1 false fun _ v3 => callV a s48 [v3] M n fun v4 M n => VV.onAny v4 (v_ext v4 0 fun v5 => v_ext v4 1 fun v6 => v_nck v0 fun v7 => v_fa v7 4 fun v8 => stV M v8 v5 1 fun M => k e M n))
def R23_4 : RegF := fun a e M n k => e.getK q1 fun v0 => VV.onAny v0 (VV.onAny v0 (v_nck v0 fun v1 => v_fa v1 4 fun v2 => ldV M v2 1 false fun _ v3 => callV a s49 [v3] M n fun v4 M n => v_nck v0 fun v5 => v_fa v5 5 fun v6 => stV M v6 v4 1 fun M => k e M n))
def R23_5 : RegF := fun a e M n k => e.getK q1 fun v0 => VV.onAny v0 (callV a s50 [(.i (.ofNat 4))] M n fun v1 M n => VV.onAny v1 (v_ext v1 0 fun v2 => v_ext v1 1 fun v3 => v_nck v0 fun v4 => v_fa v4 6 fun v5 => stV M v5 v2 1 fun M => k e M n))
def R23_6 : RegF := fun a e M n k => e.getK q1 fun v0 => VV.onAny v0 (callV a s51 [(.i (.ofNat 0))] M n fun v1 M n => VV.onAny v1 (v_ext v1 0 fun v2 => v_ext v1 1 fun v3 => v_nck v0 fun v4 => v_fa v4 7 fun v5 => stV M v5 v2 1 fun M => k e M n))
def R23_7 : RegF := fun a e M n k => e.getK q1 fun v0 => e.getK q2 fun v1 => VV.onAny v0 (v_fa v1 5 fun v2 => ldV M v2 1 false fun _ v3 => callV a s53 [v3] M n fun v4 M n => VV.onAny v4 (v_ext v4 0 fun v5 => v_ext v4 1 fun v6 => v_nck v0 fun v7 => v_fa v7 9 fun v8 => stV M v8 v5 1 fun M => k e M n))
def R23_8 : RegF := fun a e M n k => e.getK q1 fun v0 => e.getK q2 fun v1 => VV.onAny v0 (v_fa v1 4 fun v2 => ldV M v2 1 false fun _ v3 => callV a s54 [v3] M n fun v4 M n => VV.onAny v4 (v_ext v4 0 fun v5 => v_ext v4 1 fun v6 => v_nck v0 fun v7 => v_fa v7 10 fun v8 => stV M v8 v5 1 fun M => k e M n))
def R23_9 : RegF := fun a e M n k => e.getK q1 fun v0 => VV.onAny v0 (VV.onAny v0 (VV.onAny (.i (.ofNat 0)) (e.setK q26 v0 fun e => e.setK q27 (.i (.ofNat 0)) fun e => k e M n)))
def R23_10 : RegF := fun a e M n k => e.getK q1 fun v0 => VV.onAny v0 (v_nck v0 fun v1 => v_fa v1 2 fun v2 => ldV M v2 1 false fun _ v3 => v_lenS v3 fun v4 => VV.onAny (.i (.ofNat 0)) (e.setK q23 v4 fun e => e.setK q7 (.i (.ofNat 0)) fun e => k e M n))
def R23_11 : RegF := fun a e M n k => e.getK q7 fun v0 => e.getK q23 fun v1 => v_lt v0 v1 fun v2 => e.setK q24 v2 fun e => k e M n
def R23_12 : RegF := fun a e M n k => e.getK q7 fun v0 => VV.onAny v0 (VV.onAny v0 (e.setK q25 v0 fun e => k e M n))
def R23_13 : RegF := fun a e M n k => e.getK q1 fun v0 => e.getK q25 fun v1 => VV.onAny v0 (v_nck v0 fun v2 => v_fa v2 10 fun v3 => ldV M v3 1 false fun _ v4 => VV.onAny v1 (callV a s55 [v4, v1] M n fun v5 M n => k e M n))
def R23_14 : RegF := fun a e M n k => e.getK q7 fun v0 => v_add v0 (.i (.ofNat 1)) fun v1 => VV.onAny v1 (e.setK q7 v1 fun e => k e M n)
def R23_15 : RegF := fun a e M n k => e.getK q2 fun v0 => v_fa v0 3 fun v1 => ldV M v1 1 false fun _ v2 => v_lenS v2 fun v3 => VV.onAny (.i (.ofNat 0)) (e.setK q20 v2 fun e => e.setK q18 v3 fun e => e.setK q6 (.i (.ofNat 0)) fun e => k e M n)
def R23_16 : RegF := fun a e M n k => e.getK q6 fun v0 => e.getK q18 fun v1 => v_lt v0 v1 fun v2 => e.setK q19 v2 fun e => k e M n
def R23_17 : RegF := fun a e M n k => e.getK q20 fun v0 => e.getK q6 fun v1 => v_ixS v0 v1 1 fun v2 => ldV M v2 1 false fun _ v3 => VV.onAny v3 (e.setK q21 v3 fun e => k e M n)
def R23_18 : RegF := fun a e M n k => e.getK q21 fun v0 => VV.onAny v0 (callV a s52 [v0] M n fun v1 M n => VV.onAny v1 (v_ext v1 0 fun v2 => v_ext v1 1 fun v3 => VV.onAny v2 (VV.onAny v3 (e.setK q22 v2 fun e => k e M n))))
def R23_19 : RegF := fun a e M n k => e.getK q1 fun v0 => e.getK q22 fun v1 => VV.onAny v0 (VV.onAny v0 (v_nck v0 fun v2 => v_fa v2 8 fun v3 => ldV M v3 1 false fun _ v4 => VV.onAny v1 (bslV 103 1 1 [.nil] [(0, 1, v1)] M n fun v5 M n => appV 103 1 8 v4 v5 M n fun v6 M n => v_nck v0 fun v7 => v_fa v7 8 fun v8 => stV M v8 v6 1 fun M => k e M n)))
def R23_20 : RegF := fun a e M n k => e.getK q6 fun v0 => v_add v0 (.i (.ofNat 1)) fun v1 => VV.onAny v1 (e.setK q6 v1 fun e => k e M n)
def R23_21 : RegF := fun a e M n k => e.getK q2 fun v0 => v_fa v0 1 fun v1 => ldV M v1 1 false fun _ v2 => v_lenS v2 fun v3 => VV.onAny (.i (.ofNat 0)) (e.setK q15 v2 fun e => e.setK q13 v3 fun e => e.setK q5 (.i (.ofNat 0)) fun e => k e M n)
def R23_22 : RegF := fun a e M n k => e.getK q5 fun v0 => e.getK q13 fun v1 => v_lt v0 v1 fun v2 => e.setK q14 v2 fun e => k e M n
def R23_23 : RegF := fun a e M n k => e.getK q5 fun v0 => e.getK q15 fun v1 => VV.onAny v0 (v_ixS v1 v0 2 fun v2 => ldV M v2 2 true fun _ v3 => alV 39 [(.i (.ofNat 0)), .nils] M n fun v4 M n => VV.onAny v0 (stV M v4 v3 2 fun M => e.setK q17 v4 fun e => e.setK q16 v0 fun e => k e M n))
def R23_24 : RegF := fun a e M n k => e.getK q1 fun v0 => e.getK q2 fun v1 => e.getK q16 fun v2 => e.getK q17 fun v3 => (fun M0 => VV.onAny v0 (v_fa v1 0 fun v4 => ldV M v4 1 false fun _ v5 => v_lenS v5 fun v6 => VV.onAny v2 (v_add v6 v2 fun v7 => ldV M v3 2 true fun _ v8 => callV a s47 [v7, v8] M n fun v9 M n => v_fa v3 1 fun v10 => ldV M v10 1 false fun bv11 v11 => callV a s46 [v11] M n fun v12 M n => callV a s44 [v0, v9, v12] M n fun v13 M n => Bool.rec false (k e M n) (keptB M0 M (bv11 :: []))))) M
def R23_25 : RegF := fun a e M n k => e.getK q5 fun v0 => v_add v0 (.i (.ofNat 1)) fun v1 => VV.onAny v1 (e.setK q5 v1 fun e => k e M n)
def R23_26 : RegF := fun a e M n k => e.getK q2 fun v0 => v_fa v0 0 fun v1 => ldV M v1 1 false fun _ v2 => v_lenS v2 fun v3 => VV.onAny (.i (.ofNat 0)) (e.setK q11 v2 fun e => e.setK q9 v3 fun e => e.setK q3 (.i (.ofNat 0)) fun e => k e M n)
def R23_27 : RegF := fun a e M n k => e.getK q3 fun v0 => e.getK q9 fun v1 => v_lt v0 v1 fun v2 => e.setK q10 v2 fun e => k e M n
def R23_28 : RegF := fun a e M n k => e.getK q3 fun v0 => e.getK q11 fun v1 => VV.onAny v0 (v_ixS v1 v0 8 fun v2 => ldV M v2 8 true fun _ v3 => alV 37 [(.i (.ofNat 0)), (.i (.ofNat 0)), (.i (.ofNat 0)), (.i (.ofNat 0)), (.i (.ofNat 0)), (.i (.ofNat 0)), .nils, .nils] M n fun v4 M n => VV.onAny v0 (stV M v4 v3 8 fun M => e.setK q4 v4 fun e => e.setK q12 v0 fun e => k e M n))
def R23_29 : RegF := fun a e M n k => e.getK q4 fun v0 => v_fa v0 6 fun v1 => ldV M v1 1 false fun _ v2 => callV a s43 [v2] M n fun v3 M n => v_fa v0 6 fun v4 => stV M v4 v3 1 fun M => k e M n
def R23_30 : RegF := fun a e M n k => e.getK q1 fun v0 => e.getK q4 fun v1 => (fun M0 => VV.onAny v0 (VV.onAny v0 (v_nck v0 fun v2 => v_fa v2 0 fun v3 => ldV M v3 1 false fun _ v4 => ldV M v1 8 true fun _ v5 => bslV 37 8 1 [(.i (.ofNat 0)), (.i (.ofNat 0)), (.i (.ofNat 0)), (.i (.ofNat 0)), (.i (.ofNat 0)), (.i (.ofNat 0)), .nils, .nils] [(0, 8, v5)] M n fun v6 M n => appV 37 8 96 v4 v6 M n fun v7 M n => v_nck v0 fun v8 => v_fa v8 0 fun v9 => Bool.rec false (stV M v9 v7 1 fun M => k e M n) (keptB M0 M [])))) M
def R23_31 : RegF := fun a e M n k => e.getK q1 fun v0 => e.getK q12 fun v1 => e.getK q4 fun v2 => (fun M0 => VV.onAny v0 (VV.onAny v1 (ldV M v2 8 true fun _ v3 => callV a s45 [v1, v3] M n fun v4 M n => v_fa v2 7 fun v5 => ldV M v5 1 false fun bv6 v6 => callV a s46 [v6] M n fun v7 M n => callV a s44 [v0, v4, v7] M n fun v8 M n => Bool.rec false (k e M n) (keptB M0 M (bv6 :: []))))) M
def R23_32 : RegF := fun a e M n k => e.getK q3 fun v0 => v_add v0 (.i (.ofNat 1)) fun v1 => VV.onAny v1 (e.setK q3 v1 fun e => k e M n)
def R23_33 : RegF := fun a e M n k => VV.onAny (.nil) (VV.onAny (.i (.ofNat 2)) (e.setK q26 (.nil) fun e => e.setK q27 (.i (.ofNat 2)) fun e => k e M n))
def S23 : List (P × I) := [(s0, q0), (s4, q1), (s1, q2), (s22, q3), (s6, q4), (s53, q5), (s105, q6), (s148, q7), (s16, q8), (s21, q9), (s23, q10), (s20, q11), (s5, q12), (s52, q13), (s54, q14), (s51, q15), (s7, q16), (s8, q17), (s104, q18), (s106, q19), (s103, q20), (s10, q21), (s11, q22), (s147, q23), (s149, q24), (s13, q25), (s2, q26), (s3, q27)]
def G23 : F2 := .mk (fun a e M n k => R23_0 a e M n fun e M n => R23_1 a e M n fun e M n => e.getK q8 fun v => v.onB fun c => Bool.rec (R23_2 a e M n fun e M n => (fun (j0 : En → Mem → P → Bool) => R23_26 a e M n fun e M n => (fun (j7 : En → Mem → P → Bool) => loopK (fun a e M n k => R23_27 a e M n fun e M n => e.getK q10 fun v => v.onB fun c => Bool.rec (k (.x 0) e M n) (R23_28 a e M n fun e M n => R23_29 a e M n fun e M n => R23_30 a e M n fun e M n => R23_31 a e M n fun e M n => R23_32 a e M n fun e M n => k .n e M n) c) a e M n fun ex e M n => Ex.rec (j7 e M n) (k .r e M n) (fun id => Bool.rec (k (.x id) e M n) (j7 e M n) (Nat.beq id 0)) ex) fun e M n => j0 e M n) fun e M n => (fun (j1 : En → Mem → P → Bool) => R23_21 a e M n fun e M n => (fun (j6 : En → Mem → P → Bool) => loopK (fun a e M n k => R23_22 a e M n fun e M n => e.getK q14 fun v => v.onB fun c => Bool.rec (k (.x 2) e M n) (R23_23 a e M n fun e M n => R23_24 a e M n fun e M n => R23_25 a e M n fun e M n => k .n e M n) c) a e M n fun ex e M n => Ex.rec (j6 e M n) (k .r e M n) (fun id => Bool.rec (k (.x id) e M n) (j6 e M n) (Nat.beq id 2)) ex) fun e M n => j1 e M n) fun e M n => R23_3 a e M n fun e M n => R23_4 a e M n fun e M n => R23_5 a e M n fun e M n => R23_6 a e M n fun e M n => (fun (j2 : En → Mem → P → Bool) => R23_15 a e M n fun e M n => (fun (j5 : En → Mem → P → Bool) => loopK (fun a e M n k => R23_16 a e M n fun e M n => e.getK q19 fun v => v.onB fun c => Bool.rec (k (.x 4) e M n) (R23_17 a e M n fun e M n => R23_18 a e M n fun e M n => R23_19 a e M n fun e M n => R23_20 a e M n fun e M n => k .n e M n) c) a e M n fun ex e M n => Ex.rec (j5 e M n) (k .r e M n) (fun id => Bool.rec (k (.x id) e M n) (j5 e M n) (Nat.beq id 4)) ex) fun e M n => j2 e M n) fun e M n => R23_7 a e M n fun e M n => R23_8 a e M n fun e M n => (fun (j3 : En → Mem → P → Bool) => R23_10 a e M n fun e M n => (fun (j4 : En → Mem → P → Bool) => loopK (fun a e M n k => R23_11 a e M n fun e M n => e.getK q24 fun v => v.onB fun c => Bool.rec (k (.x 6) e M n) (R23_12 a e M n fun e M n => R23_13 a e M n fun e M n => R23_14 a e M n fun e M n => k .n e M n) c) a e M n fun ex e M n => Ex.rec (j4 e M n) (k .r e M n) (fun id => Bool.rec (k (.x id) e M n) (j4 e M n) (Nat.beq id 6)) ex) fun e M n => j3 e M n) fun e M n => R23_9 a e M n fun e M n => k .r e M n) (R23_33 a e M n fun e M n => k .r e M n) c) [.t q26, .t q27] [q0]
def R24_0 : RegF := fun a e M n k => VV.onAny (.nils) (VV.onAny (.i (.ofNat 0)) (e.setK q17 (.nils) fun e => e.setK q18 (.i (.ofNat 0)) fun e => k e M n))
def R24_1 : RegF := fun a e M n k => e.getK q0 fun v0 => VV.onAny v0 (v_nqP false v0 fun v1 => VV.onAny v1 (gdK v1 false .off M n (fun j => v_mv v0 fun v => j v M n) fun v2 M n => gdK v1 false .off M n (fun j => v_nck v2 fun v => j v M n) fun v3 M n => gdK v1 false .off M n (fun j => v_fa v3 0 fun v => j v M n) fun v4 M n => gdK v1 false .off M n (fun j => ldV M v4 1 false fun _ v => j v M n) fun v5 M n => gdK v1 false .off M n (fun j => v_eq v5 (.i (.ofNat 16777215)) fun v => j v M n) fun v6 M n => v_pick v1 (.bool true) v6 fun v7 => e.setK q7 v7 fun e => k e M n))
def R24_2 : RegF := fun a e M n k => e.getK q0 fun v0 => VV.onAny v0 (v_nck v0 fun v1 => v_fa v1 0 fun v2 => ldV M v2 1 false fun _ v3 => v_add v3 (.i (.ofNat 1)) fun v4 => v_nck v0 fun v5 => v_fa v5 0 fun v6 => stV M v6 v4 1 fun M => k e M n)
def R24_3 : RegF := fun a e M n k => VV.onAny (.nils) (e.setK q4 (.nils) fun e => k e M n)
def R24_4 : RegF := fun a e M n k => VV.onAny (.i (.ofNat 0)) (e.setK q6 (.i (.ofNat 0)) fun e => k e M n)
def R24_5 : RegF := fun a e M n k => e.getK q4 fun v0 => VV.onAny v0 (callV a s60 [v0] M n fun v1 M n => k e M n)
def R24_6 : RegF := fun a e M n k => e.getK q4 fun v0 => e.getK q6 fun v1 => VV.onAny v0 (VV.onAny v1 (VV.onAny v0 (VV.onAny v1 (e.setK q17 v0 fun e => e.setK q18 v1 fun e => k e M n))))
def R24_7 : RegF := fun a e M n k => VV.onAny (.i (.ofNat 3)) (e.setK q1 (.i (.ofNat 3)) fun e => k e M n)
def R24_8 : RegF := fun a e M n k => e.getK q1 fun v0 => VV.onAny v0 (v_le (.i (.ofNat 0)) v0 fun v1 => e.setK q8 v1 fun e => k e M n)
def R24_9 : RegF := fun a e M n k => e.getK q1 fun v0 => VV.onAny v0 (v_sub v0 (.i (.ofNat 1)) fun v1 => VV.onAny v1 (e.setK q1 v1 fun e => k e M n))
def R24_10 : RegF := fun a e M n k => e.getK q0 fun v0 => e.getK q1 fun v1 => VV.onAny v0 (v_nck v0 fun v2 => v_fa v2 0 fun v3 => ldV M v3 1 false fun _ v4 => VV.onAny v1 (v_mul (.i (.ofNat 6)) v1 fun v5 => v_conv .u64 v5 fun v6 => v_kop .shl (.i (.ofNat 1)) v6 fun v7 => v_sub v7 (.i (.ofNat 1)) fun v8 => v_kop .and v4 v8 fun v9 => v_ne v9 (.i (.ofNat 0)) fun v10 => e.setK q9 v10 fun e => k e M n))
def R24_11 : RegF := fun a e M n k => e.getK q0 fun v0 => e.getK q1 fun v1 => (fun M0 => VV.onAny v0 (VV.onAny v1 (VV.onAny v0 (v_nck v0 fun v2 => v_fa v2 0 fun v3 => ldV M v3 1 false fun _ v4 => VV.onAny v1 (callV a s56 [v4, v1] M n fun v5 M n => v_nck v0 fun v6 => v_fa v6 1 fun v7 => v_ixA v7 v1 4 64 fun v8 => v_ixA v8 v5 64 1 fun v9 => VV.onAny v9 (Bool.rec false (e.setK q5 v9 fun e => k e M n) (keptB M0 M []))))))) M
def R24_12 : RegF := fun a e M n k => e.getK q5 fun v0 => VV.onAny v0 (v_nck v0 fun v1 => ldV M v1 1 false fun _ v2 => VV.onAny v2 (e.setK q10 v2 fun e => k e M n))
def R24_13 : RegF := fun a e M n k => e.getK q5 fun v0 => VV.onAny v0 (v_nck v0 fun v1 => stV M v1 (.nils) 1 fun M => k e M n)
def R24_14 : RegF := fun a e M n k => e.getK q10 fun v0 => VV.onAny v0 (v_lenS v0 fun v1 => VV.onAny (.i (.ofNat 0)) (e.setK q13 v0 fun e => e.setK q11 v1 fun e => e.setK q3 (.i (.ofNat 0)) fun e => k e M n))
def R24_15 : RegF := fun a e M n k => e.getK q3 fun v0 => e.getK q11 fun v1 => v_lt v0 v1 fun v2 => e.setK q12 v2 fun e => k e M n
def R24_16 : RegF := fun a e M n k => e.getK q3 fun v0 => v_add v0 (.i (.ofNat 1)) fun v1 => VV.onAny v1 (e.setK q3 v1 fun e => k e M n)
def R24_17 : RegF := fun a e M n k => e.getK q13 fun v0 => e.getK q3 fun v1 => v_ixS v0 v1 2 fun v2 => ldV M v2 2 true fun _ v3 => alV 152 [(.i (.ofNat 0)), (.i (.ofNat 0))] M n fun v4 M n => stV M v4 v3 2 fun M => e.setK q2 v4 fun e => k e M n
def R24_18 : RegF := fun a e M n k => e.getK q2 fun v0 => e.getK q0 fun v1 => (fun M0 => v_fa v0 1 fun v2 => ldV M v2 1 false fun _ v3 => VV.onAny v1 (v_nck v1 fun v4 => v_fa v4 0 fun v5 => ldV M v5 1 false fun _ v6 => v_eq v3 v6 fun v7 => VV.onAny v7 (Bool.rec false (e.setK q14 v7 fun e => k e M n) (keptB M0 M [])))) M
def R24_19 : RegF := fun a e M n k => e.getK q0 fun v0 => e.getK q2 fun v1 => VV.onAny v0 (ldV M v1 2 true fun _ v2 => callV a s58 [v0, v2, (.fn s59 [] [])] M n fun v3 M n => k e M n)
def R24_20 : RegF := fun a e M n k => e.getK q0 fun v0 => e.getK q2 fun v1 => VV.onAny v0 (v_fa v1 1 fun v2 => ldV M v2 1 false fun _ v3 => callV a s57 [v0, v3] M n fun v4 M n => VV.onAny v4 (v_ext v4 0 fun v5 => v_ext v4 1 fun v6 => VV.onAny v5 (VV.onAny v6 (e.setK q15 v5 fun e => k e M n))))
def R24_21 : RegF := fun a e M n k => e.getK q15 fun v0 => e.getK q1 fun v1 => VV.onAny v0 (VV.onAny v1 (v_ne v0 v1 fun v2 => e.setK q16 v2 fun e => k e M n))
def R24_22 : RegF := fun a e M n k => e.getK q6 fun v0 => VV.onAny v0 (v_add v0 (.i (.ofNat 1)) fun v1 => VV.onAny v1 (e.setK q6 v1 fun e => k e M n))
def R24_23 : RegF := fun a e M n k => e.getK q4 fun v0 => e.getK q2 fun v1 => VV.onAny v0 (v_fa v1 0 fun v2 => ldV M v2 1 false fun _ v3 => bslV 3 1 1 [(.i (.ofNat 0))] [(0, 1, v3)] M n fun v4 M n => appV 3 1 8 v0 v4 M n fun v5 M n => VV.onAny v5 (e.setK q4 v5 fun e => k e M n))
def R24_24 : RegF := fun a e M n k => e.getK q0 fun v0 => VV.onAny v0 (v_nck v0 fun v1 => v_fa v1 257 fun v2 => ldV M v2 1 false fun _ v3 => v_sub v3 (.i (.ofNat 1)) fun v4 => v_nck v0 fun v5 => v_fa v5 257 fun v6 => stV M v6 v4 1 fun M => k e M n)
def R24_25 : RegF := fun a e M n k => VV.onAny (.nils) (VV.onAny (.i (.ofNat 0)) (e.setK q17 (.nils) fun e => e.setK q18 (.i (.ofNat 0)) fun e => k e M n))
def S24 : List (P × I) := [(s0, q0), (s6, q1), (s10, q2), (s63, q3), (s4, q4), (s7, q5), (s5, q6), (s21, q7), (s30, q8), (s43, q9), (s8, q10), (s62, q11), (s64, q12), (s61, q13), (s82, q14), (s11, q15), (s76, q16), (s2, q17), (s3, q18)]
def G24 : F2 := .mk (fun a e M n k => R24_0 a e M n fun e M n => R24_1 a e M n fun e M n => e.getK q7 fun v => v.onB fun c => Bool.rec (R24_2 a e M n fun e M n => R24_3 a e M n fun e M n => R24_4 a e M n fun e M n => (fun (j0 : En → Mem → P → Bool) => R24_7 a e M n fun e M n => (fun (j1 : En → Mem → P → Bool) => loopK (fun a e M n k => R24_8 a e M n fun e M n => e.getK q8 fun v => v.onB fun c => Bool.rec (k (.x 0) e M n) ((fun (j2 : En → Mem → P → Bool) => (fun (j3 : En → Mem → P → Bool) => R24_10 a e M n fun e M n => e.getK q9 fun v => v.onB fun c => Bool.rec (R24_11 a e M n fun e M n => R24_12 a e M n fun e M n => R24_13 a e M n fun e M n => R24_14 a e M n fun e M n => (fun (j4 : En → Mem → P → Bool) => loopK (fun a e M n k => R24_15 a e M n fun e M n => e.getK q12 fun v => v.onB fun c => Bool.rec (k (.x 2) e M n) ((fun (j5 : En → Mem → P → Bool) => (fun (j6 : En → Mem → P → Bool) => R24_17 a e M n fun e M n => (fun (j7 : En → Mem → P → Bool) => R24_18 a e M n fun e M n => (fun (j8 : En → Mem → P → Bool) => e.getK q14 fun v => v.onB fun c => Bool.rec ((fun (j9 : En → Mem → P → Bool) => R24_20 a e M n fun e M n => R24_21 a e M n fun e M n => (fun (j10 : En → Mem → P → Bool) => e.getK q16 fun v => v.onB fun c => Bool.rec (j10 e M n) (R24_22 a e M n fun e M n => j10 e M n) c) fun e M n => j9 e M n) fun e M n => R24_19 a e M n fun e M n => j8 e M n) (R24_23 a e M n fun e M n => R24_24 a e M n fun e M n => j8 e M n) c) fun e M n => j7 e M n) fun e M n => j6 e M n) fun e M n => j5 e M n) fun e M n => R24_16 a e M n fun e M n => k .n e M n) c) a e M n fun ex e M n => Ex.rec (j4 e M n) (k .r e M n) (fun id => Bool.rec (Bool.rec (k (.x id) e M n) (j3 e M n) (Nat.beq id 1)) (j4 e M n) (Nat.beq id 2)) ex) fun e M n => j3 e M n) (j3 e M n) c) fun e M n => j2 e M n) fun e M n => R24_9 a e M n fun e M n => k .n e M n) c) a e M n fun ex e M n => Ex.rec (j1 e M n) (k .r e M n) (fun id => Bool.rec (k (.x id) e M n) (j1 e M n) (Nat.beq id 0)) ex) fun e M n => j0 e M n) fun e M n => R24_5 a e M n fun e M n => R24_6 a e M n fun e M n => k .r e M n) (R24_25 a e M n fun e M n => k .r e M n) c) [.t q17, .t q18] [q0]
def R27_0 : RegF := fun a e M n k => e.getK q1 fun v0 => bxV 48 v0 M n fun v1 M n => e.setK q2 v1 fun e => k e M n
def R27_1 : RegF := fun a e M n k => e.getK q2 fun v0 => e.getK q0 fun v1 => (fun M0 => v_fa v0 1 fun v2 => ldV M v2 1 false fun _ v3 => v_le (.i (.ofNat 0)) v3 fun v4 => VV.onAny v4 (gdK v4 true .off M n (fun j => v_fa v0 1 fun v => j v M n) fun v5 M n => gdK v4 true .off M n (fun j => ldV M v5 1 false fun _ v => j v M n) fun v6 M n => gdK v4 true .off M n (fun j => v_mv v1 fun v => j v M n) fun v7 M n => gdK v4 true .off M n (fun j => v_nck v7 fun v => j v M n) fun v8 M n => gdK v4 true .off M n (fun j => v_fa v8 8 fun v => j v M n) fun v9 M n => gdK v4 true .off M n (fun j => ldV M v9 1 false fun _ v => j v M n) fun v10 M n => gdK v4 true .off M n (fun j => v_lenS v10 fun v => j v M n) fun v11 M n => gdK v4 true .off M n (fun j => v_lt v6 v11 fun v => j v M n) fun v12 M n => v_pick v4 v12 (.bool false) fun v13 => VV.onAny v13 (Bool.rec false (e.setK q3 v13 fun e => k e M n) (keptB M0 M [])))) M
def R27_2 : RegF := fun a e M n k => e.getK q2 fun v0 => e.getK q0 fun v1 => (fun M0 => v_fa v0 1 fun v2 => ldV M v2 1 false fun _ v3 => v_eq v3 (.i (.negSucc 0)) fun v4 => VV.onAny v4 (gdK v4 true .off M n (fun j => v_fa v0 2 fun v => j v M n) fun v5 M n => gdK v4 true .off M n (fun j => ldV M v5 1 false fun _ v => j v M n) fun v6 M n => gdK v4 true .off M n (fun j => v_le (.i (.ofNat 0)) v6 fun v => j v M n) fun v7 M n => v_pick v4 v7 (.bool false) fun v8 => VV.onAny v8 (gdK v8 true .off M n (fun j => v_fa v0 2 fun v => j v M n) fun v9 M n => gdK v8 true .off M n (fun j => ldV M v9 1 false fun _ v => j v M n) fun v10 M n => gdK v8 true .off M n (fun j => v_mv v1 fun v => j v M n) fun v11 M n => gdK v8 true .off M n (fun j => v_nck v11 fun v => j v M n) fun v12 M n => gdK v8 true .off M n (fun j => v_fa v12 0 fun v => j v M n) fun v13 M n => gdK v8 true .off M n (fun j => ldV M v13 1 false fun _ v => j v M n) fun v14 M n => gdK v8 true .off M n (fun j => v_lenS v14 fun v => j v M n) fun v15 M n => gdK v8 true .off M n (fun j => v_lt v10 v15 fun v => j v M n) fun v16 M n => v_pick v8 v16 (.bool false) fun v17 => VV.onAny v17 (gdK v17 true .off M n (fun j => v_mv v1 fun v => j v M n) fun v18 M n => gdK v17 true .off M n (fun j => v_nck v18 fun v => j v M n) fun v19 M n => gdK v17 true .off M n (fun j => v_fa v19 0 fun v => j v M n) fun v20 M n => gdK v17 true .off M n (fun j => ldV M v20 1 false fun _ v => j v M n) fun v21 M n => gdK v17 true .off M n (fun j => v_fa v0 2 fun v => j v M n) fun v22 M n => gdK v17 true .off M n (fun j => ldV M v22 1 false fun _ v => j v M n) fun v23 M n => gdK v17 true .off M n (fun j => v_ixS v21 v23 8 fun v => j v M n) fun v24 M n => gdK v17 true .off M n (fun j => v_fa v24 5 fun v => j v M n) fun v25 M n => gdK v17 true .off M n (fun j => ldV M v25 1 false fun _ v => j v M n) fun v26 M n => gdK v17 true .off M n (fun j => v_eq v26 (.i (.negSucc 0)) fun v => j v M n) fun v27 M n => v_pick v17 v27 (.bool false) fun v28 => VV.onAny v28 (Bool.rec false (e.setK q4 v28 fun e => k e M n) (keptB M0 M [])))))) M
def R27_3 : RegF := fun a e M n k => e.getK q0 fun v0 => e.getK q2 fun v1 => (fun M0 => VV.onAny v0 (v_fa v1 2 fun v2 => ldV M v2 1 false fun _ v3 => VV.onAny v0 (v_nck v0 fun v4 => v_fa v4 1 fun v5 => ldV M v5 1 false fun _ v6 => callV a s65 [v0, v3, v6] M n fun v7 M n => Bool.rec false (k e M n) (keptB M0 M [])))) M
def R27_4 : RegF := fun a e M n k => e.getK q0 fun v0 => e.getK q2 fun v1 => (fun M0 => VV.onAny v0 (v_nck v0 fun v2 => v_fa v2 8 fun v3 => ldV M v3 1 false fun _ v4 => v_fa v1 1 fun v5 => ldV M v5 1 false fun _ v6 => v_ixS v4 v6 1 fun v7 => ldV M v7 1 false fun _ v8 => VV.onAny v0 (v_nck v0 fun v9 => v_fa v9 1 fun v10 => ldV M v10 1 false fun _ v11 => callV a s64 [v8, v11] M n fun v12 M n => Bool.rec false (k e M n) (keptB M0 M [])))) M
def S27 : List (P × I) := [(s0, q0), (s1, q1), (s3, q2), (s4, q3), (s31, q4)]
def G27 : F2 := .mk (fun a e M n k => R27_0 a e M n fun e M n => (fun (j0 : En → Mem → P → Bool) => R27_1 a e M n fun e M n => (fun (j1 : En → Mem → P → Bool) => e.getK q3 fun v => v.onB fun c => Bool.rec (R27_2 a e M n fun e M n => (fun (j2 : En → Mem → P → Bool) => e.getK q4 fun v => v.onB fun c => Bool.rec (j2 e M n) (R27_3 a e M n fun e M n => j2 e M n) c) fun e M n => j1 e M n) (R27_4 a e M n fun e M n => j1 e M n) c) fun e M n => j0 e M n) fun e M n => k .n e M n) [] [q0, q1]
def R28_0 : RegF := fun a e M n k => alV 67 [(.i (.ofNat 0)), (.bool false)] M n fun v0 M n => e.setK q2 v0 fun e => k e M n
def R28_1 : RegF := fun a e M n k => e.getK q0 fun v0 => VV.onAny v0 (v_nck v0 fun v1 => v_fa v1 2 fun v2 => ldV M v2 1 false fun _ v3 => callV a s66 [v3, (.fn s67 [] [])] M n fun v4 M n => VV.onAny v4 (e.setK q1 v4 fun e => k e M n))
def R28_2 : RegF := fun a e M n k => e.getK q0 fun v0 => VV.onAny v0 (VV.onAny v0 (callV a s69 [v0] M n fun v1 M n => v_nck v0 fun v2 => v_fa v2 13 fun v3 => stV M v3 v1 5 fun M => k e M n))
def R28_3 : RegF := fun a e M n k => e.getK q1 fun v0 => VV.onAny v0 (v_lt v0 (.i (.ofNat 0)) fun v1 => e.setK q7 v1 fun e => k e M n)
def R28_4 : RegF := fun a e M n k => e.getK q0 fun v0 => e.getK q1 fun v1 => VV.onAny v0 (v_nck v0 fun v2 => v_fa v2 5 fun v3 => ldV M v3 1 false fun _ v4 => VV.onAny v1 (callV a s73 [v4, v1, (.i (.ofNat 1))] M n fun v5 M n => k e M n))
def R28_5 : RegF := fun a e M n k => e.getK q0 fun v0 => e.getK q1 fun v1 => VV.onAny v0 (v_nck v0 fun v2 => v_fa v2 2 fun v3 => ldV M v3 1 false fun _ v4 => VV.onAny v1 (v_ixS v4 v1 21 fun v5 => v_fa v5 19 fun v6 => ldV M v6 1 false fun _ v7 => v_lt v7 (.i (.ofNat 0)) fun v8 => VV.onAny v8 (gdK v8 true .off M n (fun j => v_mv v0 fun v => j v M n) fun v9 M n => gdK v8 true .off M n (fun j => v_mv v1 fun v => j v M n) fun v10 M n => gdK v8 true .no M n (fun j => callV a s74 [v9, v10] M n fun v M n => j v M n) fun v11 M n => gdK v8 true .off M n (fun j => v_fd v11 0 1 false fun v => j v M n) fun v12 M n => gdK v8 true .off M n (fun j => v_eq v12 (.i (.ofNat 10)) fun v => j v M n) fun v13 M n => v_pick v8 v13 (.bool false) fun v14 => VV.onAny v14 (e.setK q9 v14 fun e => k e M n))))
def R28_6 : RegF := fun a e M n k => e.getK q0 fun v0 => e.getK q1 fun v1 => VV.onAny v0 (VV.onAny v1 (callV a s75 [v0, v1] M n fun v2 M n => k e M n))
def R28_7 : RegF := fun a e M n k => e.getK q0 fun v0 => e.getK q1 fun v1 => VV.onAny v0 (VV.onAny v1 (callV a s76 [v0, v1] M n fun v2 M n => k e M n))
def R28_8 : RegF := fun a e M n k => e.getK q1 fun v0 => e.getK q9 fun v1 => e.getK q2 fun v2 => VV.onAny v0 (VV.onAny v1 (v_bld [(.i (.ofNat 0)), (.bool false)] [(0, 1, v0), (1, 1, v1)] fun v3 => stV M v2 v3 2 fun M => k e M n))
def R28_9 : RegF := fun a e M n k => e.getK q0 fun v0 => e.getK q1 fun v1 => VV.onAny v0 (v_nck v0 fun v2 => v_fa v2 2 fun v3 => ldV M v3 1 false fun _ v4 => VV.onAny v1 (v_ixS v4 v1 21 fun v5 => v_fa v5 14 fun v6 => ldV M v6 1 false fun _ v7 => e.setK q8 v7 fun e => k e M n))
def R28_10 : RegF := fun a e M n k => e.getK q0 fun v0 => e.getK q1 fun v1 => (fun M0 => VV.onAny v0 (v_nck v0 fun v2 => v_fa v2 2 fun v3 => ldV M v3 1 false fun bv4 v4 => VV.onAny v1 (VV.onAny v0 (v_nck v0 fun v5 => v_fa v5 2 fun v6 => ldV M v6 1 false fun _ v7 => VV.onAny v1 (v_ixS v7 v1 21 fun v8 => ldV M v8 21 true fun _ v9 => callV a s72 [v9, (.i (.ofNat 1))] M n fun v10 M n => v_ixS v4 v1 21 fun v11 => Bool.rec false (stV M v11 v10 21 fun M => k e M n) (keptB M0 M (bv4 :: []))))))) M
def R28_11 : RegF := fun a e M n k => e.getK q2 fun v0 => v_bld [(.i (.ofNat 0)), (.bool false)] [(0, 1, (.i (.negSucc 0)))] fun v1 => stV M v0 v1 2 fun M => k e M n
def R28_12 : RegF := fun a e M n k => e.getK q1 fun v0 => VV.onAny v0 (v_lt v0 (.i (.ofNat 0)) fun v1 => e.setK q4 v1 fun e => k e M n)
def R28_13 : RegF := fun a e M n k => e.getK q0 fun v0 => VV.onAny v0 (callV a s68 [v0] M n fun v1 M n => VV.onAny v1 (v_ext v1 0 fun v2 => v_ext v1 1 fun v3 => VV.onAny v2 (VV.onAny v3 (e.setK q3 v2 fun e => e.setK q5 v3 fun e => k e M n))))
def R28_14 : RegF := fun a e M n k => e.getK q5 fun v0 => VV.onAny v0 (e.setK q6 v0 fun e => k e M n)
def R28_15 : RegF := fun a e M n k => e.getK q0 fun v0 => VV.onAny v0 (callV a s71 [v0] M n fun v1 M n => VV.onAny v1 (e.setK q1 v1 fun e => k e M n))
def R28_16 : RegF := fun a e M n k => e.getK q0 fun v0 => VV.onAny v0 (VV.onAny v0 (callV a s69 [v0] M n fun v1 M n => v_nck v0 fun v2 => v_fa v2 13 fun v3 => stV M v3 v1 5 fun M => k e M n))
def R28_17 : RegF := fun a e M n k => e.getK q0 fun v0 => e.getK q3 fun v1 => VV.onAny v0 (VV.onAny v1 (callV a s70 [v0, v1] M n fun v2 M n => k e M n))
def R28_18 : RegF := fun a e M n k => e.getK q3 fun v0 => e.getK q2 fun v1 => VV.onAny v0 (v_sub (.i (.negSucc 1)) v0 fun v2 => v_bld [(.i (.ofNat 0)), (.bool false)] [(0, 1, v2)] fun v3 => stV M v1 v3 2 fun M => k e M n)
def S28 : List (P × I) := [(s0, q0), (s3, q1), (s2, q2), (s4, q3), (s13, q4), (s5, q5), (s19, q6), (s39, q7), (s48, q8), (s6, q9)]
def G28 : F2 := .mk (fun a e M n k => R28_0 a e M n fun e M n => R28_1 a e M n fun e M n => (fun (j0 : En → Mem → P → Bool) => R28_12 a e M n fun e M n => (fun (j3 : En → Mem → P → Bool) => e.getK q4 fun v => v.onB fun c => Bool.rec (j3 e M n) (R28_13 a e M n fun e M n => R28_14 a e M n fun e M n => e.getK q6 fun v => v.onB fun c => Bool.rec (R28_15 a e M n fun e M n => j3 e M n) (R28_16 a e M n fun e M n => R28_17 a e M n fun e M n => R28_18 a e M n fun e M n => k .r e M n) c) c) fun e M n => j0 e M n) fun e M n => R28_2 a e M n fun e M n => R28_3 a e M n fun e M n => e.getK q7 fun v => v.onB fun c => Bool.rec ((fun (j1 : En → Mem → P → Bool) => R28_9 a e M n fun e M n => (fun (j2 : En → Mem → P → Bool) => e.getK q8 fun v => v.onB fun c => Bool.rec (j2 e M n) (R28_10 a e M n fun e M n => j2 e M n) c) fun e M n => j1 e M n) fun e M n => R28_4 a e M n fun e M n => R28_5 a e M n fun e M n => R28_6 a e M n fun e M n => R28_7 a e M n fun e M n => R28_8 a e M n fun e M n => k .r e M n) (R28_11 a e M n fun e M n => k .r e M n) c) [.c q2 2 true] [q0]
def R29_0 : RegF := fun a e M n k => VV.onAny (.bool false) (e.setK q2 (.bool false) fun e => k e M n)
def R29_1 : RegF := fun a e M n k => e.getK q0 fun v0 => e.getK q1 fun v1 => VV.onAny v0 (VV.onAny v1 (callV a s66 [v0, v1] M n fun v2 M n => v_le (.i (.ofNat 0)) v2 fun v3 => VV.onAny v3 (e.setK q2 v3 fun e => k e M n)))
def S29 : List (P × I) := [(s0, q0), (s1, q1), (s4, q2)]
def G29 : F2 := .mk (fun a e M n k => R29_0 a e M n fun e M n => R29_1 a e M n fun e M n => k .r e M n) [.t q2] [q0, q1]
def R30_0 : RegF := fun a e M n k => e.getK q0 fun v0 => bxV 109 v0 M n fun v1 M n => VV.onAny (.bool false) (e.setK q1 v1 fun e => e.setK q2 (.bool false) fun e => k e M n)
def R30_1 : RegF := fun a e M n k => e.getK q1 fun v0 => v_fa v0 14 fun v1 => ldV M v1 1 false fun _ v2 => VV.onAny v2 (e.setK q2 v2 fun e => k e M n)
def S30 : List (P × I) := [(s0, q0), (s1, q1), (s2, q2)]
def G30 : F2 := .mk (fun a e M n k => R30_0 a e M n fun e M n => R30_1 a e M n fun e M n => k .r e M n) [.t q2] [q0]
def R31_0 : RegF := fun a e M n k => e.getK q0 fun v0 => VV.onAny v0 (v_nqP true v0 fun v1 => e.setK q2 v1 fun e => k e M n)
def R31_1 : RegF := fun a e M n k => e.getK q0 fun v0 => e.getK q1 fun v1 => (fun M0 => VV.onAny v0 (VV.onAny v0 (v_nck v0 fun v2 => v_fa v2 1 fun v3 => ldV M v3 1 false fun bv4 v4 => VV.onAny v1 (callV a s77 [v1] M n fun v5 M n => v_max v4 v5 fun v6 => v_nck v0 fun v7 => v_fa v7 1 fun v8 => Bool.rec false (stV M v8 v6 1 fun M => k e M n) (keptB M0 M (bv4 :: [])))))) M
def S31 : List (P × I) := [(s0, q0), (s1, q1), (s5, q2)]
def G31 : F2 := .mk (fun a e M n k => R31_0 a e M n fun e M n => (fun (j0 : En → Mem → P → Bool) => e.getK q2 fun v => v.onB fun c => Bool.rec (j0 e M n) (R31_1 a e M n fun e M n => j0 e M n) c) fun e M n => k .n e M n) [] [q0, q1]
def R32_0 : RegF := fun a e M n k => VV.onAny (.bool false) (e.setK q4 (.bool false) fun e => k e M n)
def R32_1 : RegF := fun a e M n k => e.getK q1 fun v0 => VV.onAny v0 (callV a s77 [v0] M n fun v1 M n => VV.onAny v1 (e.setK q1 v1 fun e => k e M n))
def R32_2 : RegF := fun a e M n k => e.getK q0 fun v0 => e.getK q1 fun v1 => (fun M0 => VV.onAny v0 (v_nqP false v0 fun v2 => VV.onAny v2 (gdK v2 false .off M n (fun j => v_mv v1 fun v => j v M n) fun v3 M n => gdK v2 false .off M n (fun j => v_mv v0 fun v => j v M n) fun v4 M n => gdK v2 false .off M n (fun j => v_nck v4 fun v => j v M n) fun v5 M n => gdK v2 false .off M n (fun j => v_fa v5 1 fun v => j v M n) fun v6 M n => gdK v2 false .off M n (fun j => ldV M v6 1 false fun _ v => j v M n) fun v7 M n => gdK v2 false .off M n (fun j => v_sub v3 v7 fun v => j v M n) fun v8 M n => gdK v2 false .off M n (fun j => v_mv v0 fun v => j v M n) fun v9 M n => gdK v2 false .off M n (fun j => v_nck v9 fun v => j v M n) fun v10 M n => gdK v2 false .off M n (fun j => v_fa v10 0 fun v => j v M n) fun v11 M n => gdK v2 false .off M n (fun j => ldV M v11 1 false fun _ v => j v M n) fun v12 M n => gdK v2 false .off M n (fun j => v_lt v8 v12 fun v => j v M n) fun v13 M n => v_pick v2 (.bool true) v13 fun v14 => Bool.rec false (e.setK q2 v14 fun e => k e M n) (keptB M0 M [])))) M
def R32_3 : RegF := fun a e M n k => e.getK q0 fun v0 => VV.onAny v0 (v_mkf s31 [v0] [] fun v1 => VV.onAny v1 (e.setK q3 v1 fun e => k e M n))
def R32_4 : RegF := fun a e M n k => e.getK q3 fun v0 => e.getK q1 fun v1 => VV.onAny v0 (VV.onAny v1 (cvV a v0 [v1] M n fun v2 M n => k e M n))
def R32_5 : RegF := fun a e M n k => e.getK q0 fun v0 => e.getK q1 fun v1 => VV.onAny v0 (VV.onAny v0 (v_nck v0 fun v2 => v_fa v2 2 fun v3 => ldV M v3 1 false fun _ v4 => VV.onAny v1 (bslV 3 1 1 [(.i (.ofNat 0))] [(0, 1, v1)] M n fun v5 M n => appV 3 1 8 v4 v5 M n fun v6 M n => v_nck v0 fun v7 => v_fa v7 2 fun v8 => stV M v8 v6 1 fun M => k e M n)))
def R32_6 : RegF := fun a e M n k => VV.onAny (.bool true) (e.setK q4 (.bool true) fun e => k e M n)
def R32_7 : RegF := fun a e M n k => VV.onAny (.bool false) (e.setK q4 (.bool false) fun e => k e M n)
def S32 : List (P × I) := [(s0, q0), (s1, q1), (s22, q2), (s5, q3), (s4, q4)]
def G32 : F2 := .mk (fun a e M n k => R32_0 a e M n fun e M n => R32_1 a e M n fun e M n => R32_2 a e M n fun e M n => e.getK q2 fun v => v.onB fun c => Bool.rec (R32_3 a e M n fun e M n => R32_4 a e M n fun e M n => R32_5 a e M n fun e M n => R32_6 a e M n fun e M n => k .r e M n) (R32_7 a e M n fun e M n => k .r e M n) c) [.t q4] [q0, q1]
def R33_0 : RegF := fun a e M n k => VV.onAny (.i (.ofNat 0)) (e.setK q6 (.i (.ofNat 0)) fun e => k e M n)
def R33_1 : RegF := fun a e M n k => e.getK q0 fun v0 => VV.onAny v0 (v_nqP false v0 fun v1 => e.setK q2 v1 fun e => k e M n)
def R33_2 : RegF := fun a e M n k => e.getK q0 fun v0 => e.getK q1 fun v1 => VV.onAny v0 (v_nck v0 fun v2 => v_fa v2 2 fun v3 => ldV M v3 1 false fun _ v4 => VV.onAny v1 (lkuV (.i (.ofNat 0)) true v4 v1 M fun v5 => VV.onAny v5 (v_ext v5 0 fun v6 => v_ext v5 1 fun v7 => VV.onAny v6 (VV.onAny v7 (e.setK q5 v6 fun e => e.setK q3 v7 fun e => k e M n)))))
def R33_3 : RegF := fun a e M n k => e.getK q3 fun v0 => VV.onAny v0 (e.setK q4 v0 fun e => k e M n)
def R33_4 : RegF := fun a e M n k => VV.onAny (.i (.negSucc 0)) (e.setK q6 (.i (.negSucc 0)) fun e => k e M n)
def R33_5 : RegF := fun a e M n k => e.getK q5 fun v0 => VV.onAny v0 (VV.onAny v0 (e.setK q6 v0 fun e => k e M n))
def R33_6 : RegF := fun a e M n k => VV.onAny (.i (.negSucc 0)) (e.setK q6 (.i (.negSucc 0)) fun e => k e M n)
def S33 : List (P × I) := [(s0, q0), (s1, q1), (s8, q2), (s6, q3), (s18, q4), (s5, q5), (s4, q6)]
def G33 : F2 := .mk (fun a e M n k => R33_0 a e M n fun e M n => R33_1 a e M n fun e M n => e.getK q2 fun v => v.onB fun c => Bool.rec (R33_2 a e M n fun e M n => R33_3 a e M n fun e M n => e.getK q4 fun v => v.onB fun c => Bool.rec (R33_4 a e M n fun e M n => k .r e M n) (R33_5 a e M n fun e M n => k .r e M n) c) (R33_6 a e M n fun e M n => k .r e M n) c) [.t q6] [q0, q1]
def R34_0 : RegF := fun a e M n k => VV.onAny (.nils) (e.setK q10 (.nils) fun e => k e M n)
def R34_1 : RegF := fun a e M n k => e.getK q0 fun v0 => VV.onAny v0 (callV a s78 [v0] M n fun v1 M n => alV 70 [.nils] M n fun v2 M n => stV M v2 v1 1 fun M => e.setK q4 v2 fun e => k e M n)
def R34_2 : RegF := fun a e M n k => e.getK q4 fun v0 => ldV M v0 1 false fun _ v1 => VV.onAny v1 (e.setK q10 v1 fun e => k e M n)
def R34_3 : RegF := fun a e M n k => e.getK q0 fun v0 => VV.onAny v0 (v_lenS v0 fun v1 => VV.onAny (.i (.ofNat 0)) (e.setK q7 v0 fun e => e.setK q5 v1 fun e => e.setK q3 (.i (.ofNat 0)) fun e => k e M n))
def R34_4 : RegF := fun a e M n k => e.getK q3 fun v0 => e.getK q5 fun v1 => v_lt v0 v1 fun v2 => e.setK q6 v2 fun e => k e M n
def R34_5 : RegF := fun a e M n k => e.getK q3 fun v0 => e.getK q7 fun v1 => VV.onAny v0 (v_ixS v1 v0 3 fun v2 => ldV M v2 3 true fun _ v3 => alV 73 [(.i (.ofNat 0)), (.i (.ofNat 0)), (.i (.ofNat 0))] M n fun v4 M n => VV.onAny v0 (stV M v4 v3 3 fun M => e.setK q9 v4 fun e => e.setK q8 v0 fun e => k e M n))
def R34_6 : RegF := fun a e M n k => e.getK q1 fun v0 => e.getK q2 fun v1 => e.getK q0 fun v2 => e.getK q8 fun v3 => e.getK q4 fun v4 => e.getK q9 fun v5 => VV.onAny v0 (VV.onAny v1 (VV.onAny v2 (v_lenS v2 fun v6 => VV.onAny v3 (v_mkf s80 [] [v4, v5] fun v7 => callV a s79 [v0, v1, v6, v3, v7] M n fun v8 M n => k e M n))))
def R34_7 : RegF := fun a e M n k => e.getK q3 fun v0 => v_add v0 (.i (.ofNat 1)) fun v1 => VV.onAny v1 (e.setK q3 v1 fun e => k e M n)
def S34 : List (P × I) := [(s0, q0), (s1, q1), (s2, q2), (s14, q3), (s7, q4), (s13, q5), (s15, q6), (s12, q7), (s8, q8), (s9, q9), (s6, q10)]
def G34 : F2 := .mk (fun a e M n k => R34_0 a e M n fun e M n => R34_1 a e M n fun e M n => (fun (j0 : En → Mem → P → Bool) => R34_3 a e M n fun e M n => (fun (j1 : En → Mem → P → Bool) => loopK (fun a e M n k => R34_4 a e M n fun e M n => e.getK q6 fun v => v.onB fun c => Bool.rec (k (.x 0) e M n) (R34_5 a e M n fun e M n => R34_6 a e M n fun e M n => R34_7 a e M n fun e M n => k .n e M n) c) a e M n fun ex e M n => Ex.rec (j1 e M n) (k .r e M n) (fun id => Bool.rec (k (.x id) e M n) (j1 e M n) (Nat.beq id 0)) ex) fun e M n => j0 e M n) fun e M n => R34_2 a e M n fun e M n => k .r e M n) [.t q10] [q0, q1, q2]
def R35_0 : RegF := fun a e M n k => VV.onAny (.nils) (e.setK q8 (.nils) fun e => k e M n)
def R35_1 : RegF := fun a e M n k => e.getK q0 fun v0 => VV.onAny v0 (v_nqP false v0 fun v1 => e.setK q3 v1 fun e => k e M n)
def R35_2 : RegF := fun a e M n k => VV.onAny (.nils) (e.setK q2 (.nils) fun e => k e M n)
def R35_3 : RegF := fun a e M n k => e.getK q0 fun v0 => VV.onAny v0 (v_mkf s82 [v0] [] fun v1 => VV.onAny v1 (e.setK q6 v1 fun e => k e M n))
def R35_4 : RegF := fun a e M n k => e.getK q2 fun v0 => VV.onAny v0 (VV.onAny v0 (e.setK q8 v0 fun e => k e M n))
def R35_5 : RegF := fun a e M n k => e.getK q0 fun v0 => VV.onAny v0 (v_nck v0 fun v1 => v_fa v1 0 fun v2 => ldV M v2 1 false fun _ v3 => callV a s83 [v3] M n fun v4 M n => VV.onAny (.i (.ofNat 0)) (e.setK q4 v4 fun e => e.setK q1 (.i (.ofNat 0)) fun e => k e M n))
def R35_6 : RegF := fun a e M n k => e.getK q1 fun v0 => e.getK q4 fun v1 => v_lt v0 v1 fun v2 => e.setK q5 v2 fun e => k e M n
def R35_7 : RegF := fun a e M n k => e.getK q1 fun v0 => VV.onAny v0 (VV.onAny v0 (e.setK q7 v0 fun e => k e M n))
def R35_8 : RegF := fun a e M n k => e.getK q2 fun v0 => e.getK q6 fun v1 => e.getK q7 fun v2 => VV.onAny v0 (VV.onAny v1 (VV.onAny v2 (cvV a v1 [v2] M n fun v3 M n => bslV 3 1 1 [(.i (.ofNat 0))] [(0, 1, v3)] M n fun v4 M n => appV 3 1 8 v0 v4 M n fun v5 M n => VV.onAny v5 (e.setK q2 v5 fun e => k e M n))))
def R35_9 : RegF := fun a e M n k => e.getK q1 fun v0 => v_add v0 (.i (.ofNat 1)) fun v1 => VV.onAny v1 (e.setK q1 v1 fun e => k e M n)
def R35_10 : RegF := fun a e M n k => VV.onAny (.nils) (e.setK q8 (.nils) fun e => k e M n)
def S35 : List (P × I) := [(s0, q0), (s15, q1), (s3, q2), (s7, q3), (s14, q4), (s16, q5), (s4, q6), (s5, q7), (s2, q8)]
def G35 : F2 := .mk (fun a e M n k => R35_0 a e M n fun e M n => R35_1 a e M n fun e M n => e.getK q3 fun v => v.onB fun c => Bool.rec (R35_2 a e M n fun e M n => R35_3 a e M n fun e M n => (fun (j0 : En → Mem → P → Bool) => R35_5 a e M n fun e M n => (fun (j1 : En → Mem → P → Bool) => loopK (fun a e M n k => R35_6 a e M n fun e M n => e.getK q5 fun v => v.onB fun c => Bool.rec (k (.x 0) e M n) (R35_7 a e M n fun e M n => R35_8 a e M n fun e M n => R35_9 a e M n fun e M n => k .n e M n) c) a e M n fun ex e M n => Ex.rec (j1 e M n) (k .r e M n) (fun id => Bool.rec (k (.x id) e M n) (j1 e M n) (Nat.beq id 0)) ex) fun e M n => j0 e M n) fun e M n => R35_4 a e M n fun e M n => k .r e M n) (R35_10 a e M n fun e M n => k .r e M n) c) [.t q8] [q0]
def R36_0 : RegF := fun a e M n k => e.getK q0 fun v0 => bxV 30 v0 M n fun v1 M n => VV.onAny (.nil) (VV.onAny (.i (.ofNat 0)) (e.setK q2 v1 fun e => e.setK q5 (.nil) fun e => e.setK q6 (.i (.ofNat 0)) fun e => k e M n))
def R36_1 : RegF := fun a e M n k => e.getK q2 fun v0 => ldV M v0 6 true fun _ v1 => callV a s23 [v1] M n fun v2 M n => VV.onAny v2 (v_ext v2 0 fun v3 => v_ext v2 1 fun v4 => VV.onAny v3 (VV.onAny v4 (e.setK q4 v3 fun e => e.setK q1 v4 fun e => k e M n)))
def R36_2 : RegF := fun a e M n k => e.getK q1 fun v0 => VV.onAny v0 (v_ne v0 (.i (.ofNat 0)) fun v1 => e.setK q3 v1 fun e => k e M n)
def R36_3 : RegF := fun a e M n k => e.getK q4 fun v0 => VV.onAny v0 (v_bld [.nil, .nils] [(0, 1, v0)] fun v1 => bxV 119 v1 M n fun v2 M n => VV.onAny v2 (VV.onAny (.i (.ofNat 0)) (e.setK q5 v2 fun e => e.setK q6 (.i (.ofNat 0)) fun e => k e M n)))
def R36_4 : RegF := fun a e M n k => e.getK q1 fun v0 => VV.onAny v0 (VV.onAny (.nil) (VV.onAny v0 (e.setK q5 (.nil) fun e => e.setK q6 v0 fun e => k e M n)))
def S36 : List (P × I) := [(s0, q0), (s5, q1), (s1, q2), (s12, q3), (s4, q4), (s2, q5), (s3, q6)]
def G36 : F2 := .mk (fun a e M n k => R36_0 a e M n fun e M n => R36_1 a e M n fun e M n => R36_2 a e M n fun e M n => e.getK q3 fun v => v.onB fun c => Bool.rec (R36_3 a e M n fun e M n => k .r e M n) (R36_4 a e M n fun e M n => k .r e M n) c) [.t q5, .t q6] [q0]
def R37_0 : RegF := fun a e M n k => VV.onAny (.nils) (e.setK q9 (.nils) fun e => k e M n)
def R37_1 : RegF := fun a e M n k => e.getK q0 fun v0 => VV.onAny v0 (v_nqP false v0 fun v1 => e.setK q5 v1 fun e => k e M n)
def R37_2 : RegF := fun a e M n k => VV.onAny (.nils) (e.setK q3 (.nils) fun e => k e M n)
def R37_3 : RegF := fun a e M n k => e.getK q0 fun v0 => e.getK q3 fun v1 => VV.onAny v0 (VV.onAny v0 (v_nck v0 fun v2 => v_fa v2 1 fun v3 => ldV M v3 1 false fun _ v4 => VV.onAny v1 (appV 67 2 16 v4 v1 M n fun v5 M n => v_nck v0 fun v6 => v_fa v6 1 fun v7 => stV M v7 v5 1 fun M => k e M n)))
def R37_4 : RegF := fun a e M n k => e.getK q3 fun v0 => VV.onAny v0 (VV.onAny v0 (e.setK q9 v0 fun e => k e M n))
def R37_5 : RegF := fun a e M n k => e.getK q2 fun v0 => VV.onAny v0 (v_min v0 (.i (.ofNat 4096)) fun v1 => v_max v1 (.i (.ofNat 0)) fun v2 => VV.onAny (.i (.ofNat 0)) (e.setK q6 v2 fun e => e.setK q4 (.i (.ofNat 0)) fun e => k e M n))
def R37_6 : RegF := fun a e M n k => e.getK q4 fun v0 => e.getK q6 fun v1 => v_lt v0 v1 fun v2 => e.setK q7 v2 fun e => k e M n
def R37_7 : RegF := fun a e M n k => e.getK q0 fun v0 => VV.onAny v0 (v_nck v0 fun v1 => v_fa v1 0 fun v2 => ldV M v2 1 false fun _ v3 => callV a s84 [v3] M n fun v4 M n => alV 3 [(.i (.ofNat 0))] M n fun v5 M n => stV M v5 v4 1 fun M => e.setK q8 v5 fun e => k e M n)
def R37_8 : RegF := fun a e M n k => e.getK q3 fun v0 => e.getK q0 fun v1 => e.getK q1 fun v2 => e.getK q8 fun v3 => (fun M0 => VV.onAny v0 (VV.onAny v1 (v_nck v1 fun v4 => v_fa v4 0 fun v5 => ldV M v5 1 false fun bv6 v6 => VV.onAny v2 (v_mkf s86 [] [v3] fun v7 => callV a s85 [v2, v7] M n fun v8 M n => callV a s15 [v6, v8] M n fun v9 M n => bslV 67 2 1 [(.i (.ofNat 0)), (.bool false)] [(0, 2, v9)] M n fun v10 M n => appV 67 2 16 v0 v10 M n fun v11 M n => VV.onAny v11 (Bool.rec false (e.setK q3 v11 fun e => k e M n) (keptB M0 M (bv6 :: []))))))) M
def R37_9 : RegF := fun a e M n k => e.getK q4 fun v0 => v_add v0 (.i (.ofNat 1)) fun v1 => VV.onAny v1 (e.setK q4 v1 fun e => k e M n)
def R37_10 : RegF := fun a e M n k => VV.onAny (.nils) (e.setK q9 (.nils) fun e => k e M n)
def S37 : List (P × I) := [(s0, q0), (s1, q1), (s2, q2), (s7, q3), (s14, q4), (s10, q5), (s13, q6), (s15, q7), (s8, q8), (s6, q9)]
def G37 : F2 := .mk (fun a e M n k => R37_0 a e M n fun e M n => R37_1 a e M n fun e M n => e.getK q5 fun v => v.onB fun c => Bool.rec (R37_2 a e M n fun e M n => (fun (j0 : En → Mem → P → Bool) => R37_5 a e M n fun e M n => (fun (j1 : En → Mem → P → Bool) => loopK (fun a e M n k => R37_6 a e M n fun e M n => e.getK q7 fun v => v.onB fun c => Bool.rec (k (.x 0) e M n) (R37_7 a e M n fun e M n => R37_8 a e M n fun e M n => R37_9 a e M n fun e M n => k .n e M n) c) a e M n fun ex e M n => Ex.rec (j1 e M n) (k .r e M n) (fun id => Bool.rec (k (.x id) e M n) (j1 e M n) (Nat.beq id 0)) ex) fun e M n => j0 e M n) fun e M n => R37_3 a e M n fun e M n => R37_4 a e M n fun e M n => k .r e M n) (R37_10 a e M n fun e M n => k .r e M n) c) [.t q9] [q0, q1, q2]
def R38_0 : RegF := fun a e M n k => VV.onAny (.nils) (e.setK q2 (.nils) fun e => k e M n)
def R38_1 : RegF := fun a e M n k => e.getK q0 fun v0 => VV.onAny v0 (v_nqP false v0 fun v1 => e.setK q1 v1 fun e => k e M n)
def R38_2 : RegF := fun a e M n k => e.getK q0 fun v0 => VV.onAny v0 (v_nck v0 fun v1 => v_fa v1 12 fun v2 => ldV M v2 1 false fun _ v3 => callV a s87 [v3] M n fun v4 M n => VV.onAny v4 (e.setK q2 v4 fun e => k e M n))
def R38_3 : RegF := fun a e M n k => VV.onAny (.nils) (e.setK q2 (.nils) fun e => k e M n)
def S38 : List (P × I) := [(s0, q0), (s4, q1), (s2, q2)]
def G38 : F2 := .mk (fun a e M n k => R38_0 a e M n fun e M n => R38_1 a e M n fun e M n => e.getK q1 fun v => v.onB fun c => Bool.rec (R38_2 a e M n fun e M n => k .r e M n) (R38_3 a e M n fun e M n => k .r e M n) c) [.t q2] [q0]
def R39_0 : RegF := fun a e M n k => VV.onAny (.nils) (e.setK q2 (.nils) fun e => k e M n)
def R39_1 : RegF := fun a e M n k => e.getK q0 fun v0 => VV.onAny v0 (v_nqP false v0 fun v1 => e.setK q1 v1 fun e => k e M n)
def R39_2 : RegF := fun a e M n k => e.getK q0 fun v0 => VV.onAny v0 (v_nck v0 fun v1 => v_fa v1 11 fun v2 => ldV M v2 1 false fun _ v3 => callV a s88 [v3] M n fun v4 M n => VV.onAny v4 (e.setK q2 v4 fun e => k e M n))
def R39_3 : RegF := fun a e M n k => VV.onAny (.nils) (e.setK q2 (.nils) fun e => k e M n)
def S39 : List (P × I) := [(s0, q0), (s4, q1), (s2, q2)]
def G39 : F2 := .mk (fun a e M n k => R39_0 a e M n fun e M n => R39_1 a e M n fun e M n => e.getK q1 fun v => v.onB fun c => Bool.rec (R39_2 a e M n fun e M n => k .r e M n) (R39_3 a e M n fun e M n => k .r e M n) c) [.t q2] [q0]
def R40_0 : RegF := fun a e M n k => VV.onAny (.bool false) (e.setK q8 (.bool false) fun e => k e M n)
def R40_1 : RegF := fun a e M n k => VV.onAny (.bool true) (e.setK q8 (.bool true) fun e => k e M n)
def R40_2 : RegF := fun a e M n k => e.getK q2 fun v0 => e.getK q0 fun v1 => VV.onAny v0 (VV.onAny v1 (v_lenS v1 fun v2 => v_min v0 v2 fun v3 => VV.onAny (.i (.ofNat 0)) (e.setK q4 v3 fun e => e.setK q3 (.i (.ofNat 0)) fun e => k e M n)))
def R40_3 : RegF := fun a e M n k => e.getK q3 fun v0 => e.getK q4 fun v1 => v_lt v0 v1 fun v2 => e.setK q5 v2 fun e => k e M n
def R40_4 : RegF := fun a e M n k => e.getK q3 fun v0 => VV.onAny v0 (VV.onAny v0 (e.setK q6 v0 fun e => k e M n))
def R40_5 : RegF := fun a e M n k => e.getK q0 fun v0 => e.getK q1 fun v1 => e.getK q2 fun v2 => e.getK q6 fun v3 => VV.onAny v0 (VV.onAny v1 (VV.onAny v2 (VV.onAny v3 (callV a s90 [v0, v1, v2, v3] M n fun v4 M n => VV.onAny v3 (callV a s89 [v4, v3] M n fun v5 M n => e.setK q7 v5 fun e => k e M n)))))
def R40_6 : RegF := fun a e M n k => e.getK q3 fun v0 => v_add v0 (.i (.ofNat 1)) fun v1 => VV.onAny v1 (e.setK q3 v1 fun e => k e M n)
def R40_7 : RegF := fun a e M n k => VV.onAny (.bool false) (e.setK q8 (.bool false) fun e => k e M n)
def S40 : List (P × I) := [(s0, q0), (s1, q1), (s2, q2), (s12, q3), (s11, q4), (s13, q5), (s7, q6), (s21, q7), (s6, q8)]
def G40 : F2 := .mk (fun a e M n k => R40_0 a e M n fun e M n => (fun (j0 : En → Mem → P → Bool) => R40_2 a e M n fun e M n => (fun (j1 : En → Mem → P → Bool) => loopK (fun a e M n k => R40_3 a e M n fun e M n => e.getK q5 fun v => v.onB fun c => Bool.rec (k (.x 0) e M n) (R40_4 a e M n fun e M n => R40_5 a e M n fun e M n => e.getK q7 fun v => v.onB fun c => Bool.rec (R40_6 a e M n fun e M n => k .n e M n) (R40_7 a e M n fun e M n => k .r e M n) c) c) a e M n fun ex e M n => Ex.rec (j1 e M n) (k .r e M n) (fun id => Bool.rec (k (.x id) e M n) (j1 e M n) (Nat.beq id 0)) ex) fun e M n => j0 e M n) fun e M n => R40_1 a e M n fun e M n => k .r e M n) [.t q8] [q0, q1, q2]
def R41_0 : RegF := fun a e M n k => e.getK q0 fun v0 => bxV 84 v0 M n fun v1 M n => VV.onAny (.nils) (e.setK q4 v1 fun e => e.setK q10 (.nils) fun e => k e M n)
def R41_1 : RegF := fun a e M n k => VV.onAny (.nils) (e.setK q3 (.nils) fun e => k e M n)
def R41_2 : RegF := fun a e M n k => e.getK q3 fun v0 => VV.onAny v0 (VV.onAny v0 (e.setK q10 v0 fun e => k e M n))
def R41_3 : RegF := fun a e M n k => e.getK q4 fun v0 => v_fa v0 1 fun v1 => ldV M v1 1 false fun _ v2 => v_lenS v2 fun v3 => VV.onAny (.i (.ofNat 0)) (e.setK q7 v2 fun e => e.setK q5 v3 fun e => e.setK q1 (.i (.ofNat 0)) fun e => k e M n)
def R41_4 : RegF := fun a e M n k => e.getK q1 fun v0 => e.getK q5 fun v1 => v_lt v0 v1 fun v2 => e.setK q6 v2 fun e => k e M n
def R41_5 : RegF := fun a e M n k => e.getK q7 fun v0 => e.getK q1 fun v1 => v_ixS v0 v1 21 fun v2 => ldV M v2 21 true fun _ v3 => alV 109 (rep 9 (.i (.ofNat 0)) ++ [(.bool false), (.i (.ofNat 0)), (.i (.ofNat 0)), (.i (.ofNat 0)), (.str []), (.bool false), (.i (.ofNat 0)), (.i (.ofNat 0)), (.i (.ofNat 0)), (.i (.ofNat 0)), (.i (.ofNat 0)), .nils]) M n fun v4 M n => stV M v4 v3 21 fun M => e.setK q2 v4 fun e => k e M n
def R41_6 : RegF := fun a e M n k => VV.onAny (.i (.negSucc 0)) (e.setK q9 (.i (.negSucc 0)) fun e => k e M n)
def R41_7 : RegF := fun a e M n k => e.getK q3 fun v0 => e.getK q9 fun v1 => VV.onAny v0 (VV.onAny v1 (bslV 3 1 1 [(.i (.ofNat 0))] [(0, 1, v1)] M n fun v2 M n => appV 3 1 8 v0 v2 M n fun v3 M n => VV.onAny v3 (e.setK q3 v3 fun e => k e M n)))
def R41_8 : RegF := fun a e M n k => e.getK q1 fun v0 => v_add v0 (.i (.ofNat 1)) fun v1 => VV.onAny v1 (e.setK q1 v1 fun e => k e M n)
def R41_9 : RegF := fun a e M n k => e.getK q2 fun v0 => v_fa v0 5 fun v1 => ldV M v1 1 false fun _ v2 => v_eq v2 (.i (.ofNat 2)) fun v3 => e.setK q8 v3 fun e => k e M n
def R41_10 : RegF := fun a e M n k => e.getK q2 fun v0 => v_fa v0 6 fun v1 => ldV M v1 1 false fun _ v2 => VV.onAny v2 (e.setK q9 v2 fun e => k e M n)
def S41 : List (P × I) := [(s0, q0), (s10, q1), (s5, q2), (s3, q3), (s1, q4), (s9, q5), (s11, q6), (s8, q7), (s16, q8), (s6, q9), (s2, q10)]
def G41 : F2 := .mk (fun a e M n k => R41_0 a e M n fun e M n => R41_1 a e M n fun e M n => (fun (j0 : En → Mem → P → Bool) => R41_3 a e M n fun e M n => (fun (j1 : En → Mem → P → Bool) => loopK (fun a e M n k => R41_4 a e M n fun e M n => e.getK q6 fun v => v.onB fun c => Bool.rec (k (.x 0) e M n) (R41_5 a e M n fun e M n => R41_6 a e M n fun e M n => (fun (j2 : En → Mem → P → Bool) => R41_9 a e M n fun e M n => (fun (j3 : En → Mem → P → Bool) => e.getK q8 fun v => v.onB fun c => Bool.rec (j3 e M n) (R41_10 a e M n fun e M n => j3 e M n) c) fun e M n => j2 e M n) fun e M n => R41_7 a e M n fun e M n => R41_8 a e M n fun e M n => k .n e M n) c) a e M n fun ex e M n => Ex.rec (j1 e M n) (k .r e M n) (fun id => Bool.rec (k (.x id) e M n) (j1 e M n) (Nat.beq id 0)) ex) fun e M n => j0 e M n) fun e M n => R41_2 a e M n fun e M n => k .r e M n) [.t q10] [q0]
def R42_0 : RegF := fun a e M n k => e.getK q0 fun v0 => bxV 30 v0 M n fun v1 M n => VV.onAny (.bool false) (e.setK q1 v1 fun e => e.setK q18 (.bool false) fun e => k e M n)
def R42_1 : RegF := fun a e M n k => e.getK q1 fun v0 => v_fa v0 0 fun v1 => ldV M v1 1 false fun _ v2 => v_lenS v2 fun v3 => v_lt (.i (.ofNat 8)) v3 fun v4 => VV.onAny v4 (gdK v4 false .off M n (fun j => v_fa v0 1 fun v => j v M n) fun v5 M n => gdK v4 false .off M n (fun j => ldV M v5 1 false fun _ v => j v M n) fun v6 M n => gdK v4 false .off M n (fun j => v_lenS v6 fun v => j v M n) fun v7 M n => gdK v4 false .off M n (fun j => v_lt (.i (.ofNat 6)) v7 fun v => j v M n) fun v8 M n => v_pick v4 (.bool true) v8 fun v9 => VV.onAny v9 (gdK v9 false .off M n (fun j => v_fa v0 3 fun v => j v M n) fun v10 M n => gdK v9 false .off M n (fun j => ldV M v10 1 false fun _ v => j v M n) fun v11 M n => gdK v9 false .off M n (fun j => v_lenS v11 fun v => j v M n) fun v12 M n => gdK v9 false .off M n (fun j => v_lt (.i (.ofNat 4)) v12 fun v => j v M n) fun v13 M n => v_pick v9 (.bool true) v13 fun v14 => VV.onAny v14 (gdK v14 false .off M n (fun j => v_fa v0 4 fun v => j v M n) fun v15 M n => gdK v14 false .off M n (fun j => ldV M v15 1 false fun _ v => j v M n) fun v16 M n => gdK v14 false .no M n (fun j => callV a s91 [v16, (.i (.ofNat 8)), (.i (.ofNat 64))] M n fun v M n => j v M n) fun v17 M n => gdK v14 false .off M n (fun j => v_not v17 fun v => j v M n) fun v18 M n => v_pick v14 (.bool true) v18 fun v19 => VV.onAny v19 (gdK v19 false .off M n (fun j => v_fa v0 5 fun v => j v M n) fun v20 M n => gdK v19 false .off M n (fun j => ldV M v20 1 false fun _ v => j v M n) fun v21 M n => gdK v19 false .no M n (fun j => callV a s91 [v21, (.i (.ofNat 1)), (.i (.ofNat 1099511627776))] M n fun v M n => j v M n) fun v22 M n => gdK v19 false .off M n (fun j => v_not v22 fun v => j v M n) fun v23 M n => v_pick v19 (.bool true) v23 fun v24 => e.setK q6 v24 fun e => k e M n))))
def R42_2 : RegF := fun a e M n k => VV.onAny (.bool false) (e.setK q18 (.bool false) fun e => k e M n)
def R42_3 : RegF := fun a e M n k => e.getK q1 fun v0 => v_fa v0 2 fun v1 => ldV M v1 1 false fun _ v2 => callV a s48 [v2] M n fun v3 M n => VV.onAny v3 (v_ext v3 0 fun v4 => v_ext v3 1 fun v5 => VV.onAny v4 (VV.onAny v5 (e.setK q7 v5 fun e => k e M n)))
def R42_4 : RegF := fun a e M n k => e.getK q7 fun v0 => VV.onAny v0 (v_ne v0 (.i (.ofNat 0)) fun v1 => e.setK q8 v1 fun e => k e M n)
def R42_5 : RegF := fun a e M n k => VV.onAny (.bool false) (e.setK q18 (.bool false) fun e => k e M n)
def R42_6 : RegF := fun a e M n k => mkmV M n fun v0 M n => VV.onAny v0 (e.setK q5 v0 fun e => k e M n)
def R42_7 : RegF := fun a e M n k => e.getK q1 fun v0 => v_fa v0 0 fun v1 => ldV M v1 1 false fun _ v2 => v_lenS v2 fun v3 => VV.onAny (.i (.ofNat 0)) (e.setK q11 v2 fun e => e.setK q9 v3 fun e => e.setK q2 (.i (.ofNat 0)) fun e => k e M n)
def R42_8 : RegF := fun a e M n k => e.getK q2 fun v0 => e.getK q9 fun v1 => v_lt v0 v1 fun v2 => e.setK q10 v2 fun e => k e M n
def R42_9 : RegF := fun a e M n k => e.getK q11 fun v0 => e.getK q2 fun v1 => v_ixS v0 v1 8 fun v2 => ldV M v2 8 true fun _ v3 => alV 37 [(.i (.ofNat 0)), (.i (.ofNat 0)), (.i (.ofNat 0)), (.i (.ofNat 0)), (.i (.ofNat 0)), (.i (.ofNat 0)), .nils, .nils] M n fun v4 M n => stV M v4 v3 8 fun M => e.setK q4 v4 fun e => k e M n
def R42_10 : RegF := fun a e M n k => e.getK q1 fun v0 => e.getK q4 fun v1 => e.getK q5 fun v2 => ldV M v0 6 true fun _ v3 => ldV M v1 8 true fun _ v4 => callV a s92 [v3, v4] M n fun v5 M n => v_not v5 fun v6 => VV.onAny v6 (gdK v6 false .off M n (fun j => v_fa v1 5 fun v => j v M n) fun v7 M n => gdK v6 false .off M n (fun j => ldV M v7 1 false fun _ v => j v M n) fun v8 M n => gdK v6 false .off M n (fun j => v_le (.i (.ofNat 0)) v8 fun v => j v M n) fun v9 M n => gdK v6 false .off M n (fun j => v_mv v9 fun v => j v M n) fun v10 M n => gdK v10 true .off M n (fun j => v_mv v2 fun v => j v M n) fun v11 M n => gdK v10 true .off M n (fun j => v_fa v1 5 fun v => j v M n) fun v12 M n => gdK v10 true .off M n (fun j => ldV M v12 1 false fun _ v => j v M n) fun v13 M n => gdK v10 true .no M n (fun j => lkuV (.i (.ofNat 0)) false v11 v13 M fun v => j v M n) fun v14 M n => gdK v10 true .off M n (fun j => v_lt (.i (.ofNat 0)) v14 fun v => j v M n) fun v15 M n => gdK v6 false .off M n (fun j => v_pick v10 v15 (.bool false) fun v => j v M n) fun v16 M n => v_pick v6 (.bool true) v16 fun v17 => e.setK q12 v17 fun e => k e M n)
def R42_11 : RegF := fun a e M n k => VV.onAny (.bool false) (e.setK q18 (.bool false) fun e => k e M n)
def R42_12 : RegF := fun a e M n k => e.getK q5 fun v0 => e.getK q4 fun v1 => VV.onAny v0 (v_fa v1 5 fun v2 => ldV M v2 1 false fun _ v3 => lkuV (.i (.ofNat 0)) false v0 v3 M fun v4 => v_add v4 (.i (.ofNat 1)) fun v5 => mupV v0 v3 v5 M fun M => k e M n)
def R42_13 : RegF := fun a e M n k => e.getK q2 fun v0 => v_add v0 (.i (.ofNat 1)) fun v1 => VV.onAny v1 (e.setK q2 v1 fun e => k e M n)
def R42_14 : RegF := fun a e M n k => e.getK q1 fun v0 => v_fa v0 1 fun v1 => ldV M v1 1 false fun _ v2 => v_lenS v2 fun v3 => VV.onAny (.i (.ofNat 0)) (e.setK q15 v2 fun e => e.setK q13 v3 fun e => e.setK q3 (.i (.ofNat 0)) fun e => k e M n)
def R42_15 : RegF := fun a e M n k => e.getK q3 fun v0 => e.getK q13 fun v1 => v_lt v0 v1 fun v2 => e.setK q14 v2 fun e => k e M n
def R42_16 : RegF := fun a e M n k => e.getK q15 fun v0 => e.getK q3 fun v1 => v_ixS v0 v1 2 fun v2 => ldV M v2 2 true fun _ v3 => alV 39 [(.i (.ofNat 0)), .nils] M n fun v4 M n => stV M v4 v3 2 fun M => e.setK q16 v4 fun e => k e M n
def R42_17 : RegF := fun a e M n k => e.getK q16 fun v0 => v_fa v0 0 fun v1 => ldV M v1 1 false fun _ v2 => callV a s91 [v2, (.i (.ofNat 0)), (.i (.ofNat 15))] M n fun v3 M n => v_not v3 fun v4 => VV.onAny v4 (gdK v4 false .off M n (fun j => v_fa v0 1 fun v => j v M n) fun v5 M n => gdK v4 false .off M n (fun j => ldV M v5 1 false fun _ v => j v M n) fun v6 M n => gdK v4 false .off M n (fun j => v_lenS v6 fun v => j v M n) fun v7 M n => gdK v4 false .off M n (fun j => v_lt (.i (.ofNat 40)) v7 fun v => j v M n) fun v8 M n => v_pick v4 (.bool true) v8 fun v9 => e.setK q17 v9 fun e => k e M n)
def R42_18 : RegF := fun a e M n k => VV.onAny (.bool false) (e.setK q18 (.bool false) fun e => k e M n)
def R42_19 : RegF := fun a e M n k => e.getK q3 fun v0 => v_add v0 (.i (.ofNat 1)) fun v1 => VV.onAny v1 (e.setK q3 v1 fun e => k e M n)
def R42_20 : RegF := fun a e M n k => e.getK q1 fun v0 => v_fa v0 3 fun v1 => ldV M v1 1 false fun _ v2 => callV a s93 [v2, (.fn s94 [] [])] M n fun v3 M n => v_not v3 fun v4 => VV.onAny v4 (e.setK q18 v4 fun e => k e M n)
def S42 : List (P × I) := [(s0, q0), (s1, q1), (s50, q2), (s79, q3), (s7, q4), (s5, q5), (s37, q6), (s4, q7), (s45, q8), (s49, q9), (s51, q10), (s48, q11), (s69, q12), (s78, q13), (s80, q14), (s77, q15), (s9, q16), (s92, q17), (s2, q18)]
def G42 : F2 := .mk ((c_seq (c_fn R42_0) (c_seq (c_seq (c_fn R42_1) (c_cond (.t q6) (c_seq (c_fn R42_2) c_ret) c_skip)) (c_seq (c_seq (c_fn R42_3) (c_seq (c_fn R42_4) (c_cond (.t q8) (c_seq (c_fn R42_5) c_ret) c_skip))) (c_seq (c_fn R42_6) (c_seq (c_seq (c_fn R42_7) (c_blk 0 (loopK (c_seq (c_fn R42_8) (c_seq (c_cond (.t q10) c_skip (c_exit 0)) (c_seq (c_blk 1 (c_seq (c_fn R42_9) (c_seq (c_seq (c_fn R42_10) (c_cond (.t q12) (c_seq (c_fn R42_11) c_ret) c_skip)) (c_fn R42_12)))) (c_fn R42_13))))))) (c_seq (c_seq (c_fn R42_14) (c_blk 2 (loopK (c_seq (c_fn R42_15) (c_seq (c_cond (.t q14) c_skip (c_exit 2)) (c_seq (c_blk 3 (c_seq (c_fn R42_16) (c_seq (c_fn R42_17) (c_cond (.t q17) (c_seq (c_fn R42_18) c_ret) c_skip)))) (c_fn R42_19))))))) (c_seq (c_fn R42_20) c_ret)))))))) [.t q18] [q0]
def R43_0 : RegF := fun a e M n k => VV.onAny (.nils) (e.setK q2 (.nils) fun e => k e M n)
def R43_1 : RegF := fun a e M n k => e.getK q0 fun v0 => VV.onAny v0 (v_nqS false v0 fun v1 => e.setK q1 v1 fun e => k e M n)
def R43_2 : RegF := fun a e M n k => e.getK q0 fun v0 => bslV 3 1 0 [] [] M n fun v1 M n => VV.onAny v0 (appV 3 1 8 v1 v0 M n fun v2 M n => VV.onAny v2 (e.setK q2 v2 fun e => k e M n))
def R43_3 : RegF := fun a e M n k => VV.onAny (.nils) (e.setK q2 (.nils) fun e => k e M n)
def S43 : List (P × I) := [(s0, q0), (s4, q1), (s2, q2)]
def G43 : F2 := .mk (fun a e M n k => R43_0 a e M n fun e M n => R43_1 a e M n fun e M n => e.getK q1 fun v => v.onB fun c => Bool.rec (R43_2 a e M n fun e M n => k .r e M n) (R43_3 a e M n fun e M n => k .r e M n) c) [.t q2] [q0]
def R44_0 : RegF := fun a e M n k => e.getK q1 fun v0 => bxV 109 v0 M n fun v1 M n => e.setK q3 v1 fun e => k e M n
def R44_1 : RegF := fun a e M n k => e.getK q0 fun v0 => e.getK q3 fun v1 => (fun M0 => VV.onAny v0 (VV.onAny v0 (v_nck v0 fun v2 => v_fa v2 2 fun v3 => ldV M v3 1 false fun _ v4 => ldV M v1 21 true fun _ v5 => bslV 109 21 1 (rep 9 (.i (.ofNat 0)) ++ [(.bool false), (.i (.ofNat 0)), (.i (.ofNat 0)), (.i (.ofNat 0)), (.str []), (.bool false), (.i (.ofNat 0)), (.i (.ofNat 0)), (.i (.ofNat 0)), (.i (.ofNat 0)), (.i (.ofNat 0)), .nils]) [(0, 21, v5)] M n fun v6 M n => appV 109 21 192 v4 v6 M n fun v7 M n => v_nck v0 fun v8 => v_fa v8 2 fun v9 => Bool.rec false (stV M v9 v7 1 fun M => k e M n) (keptB M0 M [])))) M
def R44_2 : RegF := fun a e M n k => e.getK q0 fun v0 => e.getK q2 fun v1 => VV.onAny v0 (VV.onAny v0 (v_nck v0 fun v2 => v_fa v2 3 fun v3 => ldV M v3 1 false fun _ v4 => VV.onAny v1 (bslV 35 1 1 [.nils] [(0, 1, v1)] M n fun v5 M n => appV 35 1 24 v4 v5 M n fun v6 M n => v_nck v0 fun v7 => v_fa v7 3 fun v8 => stV M v8 v6 1 fun M => k e M n)))
def S44 : List (P × I) := [(s0, q0), (s1, q1), (s2, q2), (s4, q3)]
def G44 : F2 := .mk (fun a e M n k => R44_0 a e M n fun e M n => R44_1 a e M n fun e M n => R44_2 a e M n fun e M n => k .n e M n) [] [q0, q1, q2]
def R45_0 : RegF := fun a e M n k => e.getK q1 fun v0 => bxV 37 v0 M n fun v1 M n => alV 109 (rep 9 (.i (.ofNat 0)) ++ [(.bool false), (.i (.ofNat 0)), (.i (.ofNat 0)), (.i (.ofNat 0)), (.str []), (.bool false), (.i (.ofNat 0)), (.i (.ofNat 0)), (.i (.ofNat 0)), (.i (.ofNat 0)), (.i (.ofNat 0)), .nils]) M n fun v2 M n => e.setK q3 v1 fun e => e.setK q2 v2 fun e => k e M n
def R45_1 : RegF := fun a e M n k => e.getK q0 fun v0 => e.getK q3 fun v1 => e.getK q2 fun v2 => VV.onAny v0 (v_fa v1 0 fun v3 => ldV M v3 1 false fun _ v4 => v_fa v1 1 fun v5 => ldV M v5 1 false fun _ v6 => v_bld [(.i (.ofNat 0)), (.i (.ofNat 0)), (.i (.ofNat 0))] [(0, 1, v4), (1, 1, v6)] fun v7 => callV a s95 [v0, v7, (.i (.ofNat 0))] M n fun v8 M n => stV M v2 v8 21 fun M => k e M n)
def S45 : List (P × I) := [(s0, q0), (s1, q1), (s4, q2), (s3, q3)]
def G45 : F2 := .mk (fun a e M n k => R45_0 a e M n fun e M n => R45_1 a e M n fun e M n => k .r e M n) [.c q2 21 true] [q0, q1]
def R46_0 : RegF := fun a e M n k => VV.onAny (.nils) (e.setK q8 (.nils) fun e => k e M n)
def R46_1 : RegF := fun a e M n k => VV.onAny (.nils) (e.setK q3 (.nils) fun e => k e M n)
def R46_2 : RegF := fun a e M n k => e.getK q3 fun v0 => VV.onAny v0 (VV.onAny v0 (e.setK q8 v0 fun e => k e M n))
def R46_3 : RegF := fun a e M n k => e.getK q0 fun v0 => VV.onAny v0 (VV.onAny v0 (v_lenS v0 fun v1 => v_min v1 (.i (.ofNat 40)) fun v2 => v_slH v0 v2 fun v3 => v_lenS v3 fun v4 => VV.onAny (.i (.ofNat 0)) (e.setK q6 v3 fun e => e.setK q4 v4 fun e => e.setK q1 (.i (.ofNat 0)) fun e => k e M n)))
def R46_4 : RegF := fun a e M n k => e.getK q1 fun v0 => e.getK q4 fun v1 => v_lt v0 v1 fun v2 => e.setK q5 v2 fun e => k e M n
def R46_5 : RegF := fun a e M n k => e.getK q6 fun v0 => e.getK q1 fun v1 => v_ixS v0 v1 9 fun v2 => ldV M v2 9 true fun _ v3 => alV 34 [(.i (.ofNat 0)), (.i (.ofNat 0)), (.i (.ofNat 0)), (.i (.ofNat 0)), (.i (.ofNat 0)), (.i (.ofNat 0)), (.i (.ofNat 0)), (.str []), (.str [])] M n fun v4 M n => stV M v4 v3 9 fun M => e.setK q2 v4 fun e => k e M n
def R46_6 : RegF := fun a e M n k => e.getK q3 fun v0 => e.getK q2 fun v1 => VV.onAny v0 (ldV M v1 9 true fun _ v2 => bslV 34 9 1 [(.i (.ofNat 0)), (.i (.ofNat 0)), (.i (.ofNat 0)), (.i (.ofNat 0)), (.i (.ofNat 0)), (.i (.ofNat 0)), (.i (.ofNat 0)), (.str []), (.str [])] [(0, 9, v2)] M n fun v3 M n => appV 34 9 88 v0 v3 M n fun v4 M n => VV.onAny v4 (e.setK q3 v4 fun e => k e M n))
def R46_7 : RegF := fun a e M n k => e.getK q1 fun v0 => v_add v0 (.i (.ofNat 1)) fun v1 => VV.onAny v1 (e.setK q1 v1 fun e => k e M n)
def R46_8 : RegF := fun a e M n k => e.getK q2 fun v0 => ldV M v0 9 true fun _ v1 => callV a s96 [v1] M n fun v2 M n => v_not v2 fun v3 => e.setK q7 v3 fun e => k e M n
def R46_9 : RegF := fun a e M n k => e.getK q2 fun v0 => v_bld [(.i (.ofNat 0)), (.i (.ofNat 0)), (.i (.ofNat 0)), (.i (.ofNat 0)), (.i (.ofNat 0)), (.i (.ofNat 0)), (.i (.ofNat 0)), (.str []), (.str [])] [] fun v1 => stV M v0 v1 9 fun M => k e M n
def S46 : List (P × I) := [(s0, q0), (s12, q1), (s5, q2), (s3, q3), (s11, q4), (s13, q5), (s10, q6), (s18, q7), (s2, q8)]
def G46 : F2 := .mk (fun a e M n k => R46_0 a e M n fun e M n => R46_1 a e M n fun e M n => (fun (j0 : En → Mem → P → Bool) => R46_3 a e M n fun e M n => (fun (j1 : En → Mem → P → Bool) => loopK (fun a e M n k => R46_4 a e M n fun e M n => e.getK q5 fun v => v.onB fun c => Bool.rec (k (.x 0) e M n) (R46_5 a e M n fun e M n => (fun (j2 : En → Mem → P → Bool) => R46_8 a e M n fun e M n => (fun (j3 : En → Mem → P → Bool) => e.getK q7 fun v => v.onB fun c => Bool.rec (j3 e M n) (R46_9 a e M n fun e M n => j3 e M n) c) fun e M n => j2 e M n) fun e M n => R46_6 a e M n fun e M n => R46_7 a e M n fun e M n => k .n e M n) c) a e M n fun ex e M n => Ex.rec (j1 e M n) (k .r e M n) (fun id => Bool.rec (k (.x id) e M n) (j1 e M n) (Nat.beq id 0)) ex) fun e M n => j0 e M n) fun e M n => R46_2 a e M n fun e M n => k .r e M n) [.t q8] [q0]
def R47_0 : RegF := fun a e M n k => e.getK q1 fun v0 => bxV 39 v0 M n fun v1 M n => alV 109 (rep 9 (.i (.ofNat 0)) ++ [(.bool false), (.i (.ofNat 0)), (.i (.ofNat 0)), (.i (.ofNat 0)), (.str []), (.bool false), (.i (.ofNat 0)), (.i (.ofNat 0)), (.i (.ofNat 0)), (.i (.ofNat 0)), (.i (.ofNat 0)), .nils]) M n fun v2 M n => e.setK q3 v1 fun e => e.setK q2 v2 fun e => k e M n
def R47_1 : RegF := fun a e M n k => e.getK q0 fun v0 => e.getK q3 fun v1 => e.getK q2 fun v2 => VV.onAny v0 (v_fa v1 0 fun v3 => ldV M v3 1 false fun _ v4 => v_bld [(.i (.ofNat 0)), (.i (.ofNat 0)), (.i (.ofNat 0))] [(0, 1, (.i (.ofNat 0))), (1, 1, v4)] fun v5 => callV a s95 [v0, v5, (.i (.ofNat 1))] M n fun v6 M n => stV M v2 v6 21 fun M => k e M n)
def S47 : List (P × I) := [(s0, q0), (s1, q1), (s4, q2), (s3, q3)]
def G47 : F2 := .mk (fun a e M n k => R47_0 a e M n fun e M n => R47_1 a e M n fun e M n => k .r e M n) [.c q2 21 true] [q0, q1]
def R48_0 : RegF := fun a e M n k => VV.onAny (.nil) (VV.onAny (.i (.ofNat 0)) (e.setK q2 (.nil) fun e => e.setK q3 (.i (.ofNat 0)) fun e => k e M n))
def R48_1 : RegF := fun a e M n k => e.getK q0 fun v0 => VV.onAny v0 (v_lenS v0 fun v1 => v_lt (.i (.ofNat 6)) v1 fun v2 => VV.onAny v2 (gdK v2 false .off M n (fun j => v_mv v0 fun v => j v M n) fun v3 M n => gdK v2 false .no M n (fun j => callV a s97 [v3, (.fn s98 [] [])] M n fun v M n => j v M n) fun v4 M n => v_pick v2 (.bool true) v4 fun v5 => e.setK q1 v5 fun e => k e M n))
def R48_2 : RegF := fun a e M n k => e.getK q0 fun v0 => VV.onAny v0 (callV a s100 [v0] M n fun v1 M n => v_bld [.nils] [(0, 1, v1)] fun v2 => bxV 193 v2 M n fun v3 M n => VV.onAny v3 (VV.onAny (.i (.ofNat 0)) (e.setK q2 v3 fun e => e.setK q3 (.i (.ofNat 0)) fun e => k e M n)))
def R48_3 : RegF := fun a e M n k => VV.onAny (.nil) (VV.onAny (.i (.ofNat 2)) (e.setK q2 (.nil) fun e => e.setK q3 (.i (.ofNat 2)) fun e => k e M n))
def S48 : List (P × I) := [(s0, q0), (s10, q1), (s2, q2), (s3, q3)]
def G48 : F2 := .mk (fun a e M n k => R48_0 a e M n fun e M n => R48_1 a e M n fun e M n => e.getK q1 fun v => v.onB fun c => Bool.rec (R48_2 a e M n fun e M n => k .r e M n) (R48_3 a e M n fun e M n => k .r e M n) c) [.t q2, .t q3] [q0]
def R49_0 : RegF := fun a e M n k => VV.onAny (.nil) (e.setK q2 (.nil) fun e => k e M n)
def R49_1 : RegF := fun a e M n k => e.getK q0 fun v0 => VV.onAny v0 (mkmV M n fun v1 M n => mkmV M n fun v2 M n => v_bld [.nil, .nilm, .nilm] [(0, 1, v0), (1, 1, v1), (2, 1, v2)] fun v3 => bxV 174 v3 M n fun v4 M n => VV.onAny v4 (e.setK q2 v4 fun e => k e M n))
def R49_2 : RegF := fun a e M n k => e.getK q0 fun v0 => VV.onAny v0 (v_nqP false v0 fun v1 => e.setK q1 v1 fun e => k e M n)
def R49_3 : RegF := fun a e M n k => callV a s48 [(.nils)] M n fun v0 M n => VV.onAny v0 (v_ext v0 0 fun v1 => v_ext v0 1 fun v2 => VV.onAny v1 (e.setK q0 v1 fun e => k e M n))
def S49 : List (P × I) := [(s0, q0), (s4, q1), (s2, q2)]
def G49 : F2 := .mk (fun a e M n k => R49_0 a e M n fun e M n => (fun (j0 : En → Mem → P → Bool) => R49_2 a e M n fun e M n => (fun (j1 : En → Mem → P → Bool) => e.getK q1 fun v => v.onB fun c => Bool.rec (j1 e M n) (R49_3 a e M n fun e M n => j1 e M n) c) fun e M n => j0 e M n) fun e M n => R49_1 a e M n fun e M n => k .r e M n) [.t q2] [q0]
def R50_0 : RegF := fun a e M n k => VV.onAny (.nil) (VV.onAny (.i (.ofNat 0)) (e.setK q2 (.nil) fun e => e.setK q3 (.i (.ofNat 0)) fun e => k e M n))
def R50_1 : RegF := fun a e M n k => e.getK q0 fun v0 => VV.onAny v0 (v_lt v0 (.i (.ofNat 1)) fun v1 => VV.onAny v1 (gdK v1 false .off M n (fun j => v_mv v0 fun v => j v M n) fun v2 M n => gdK v1 false .off M n (fun j => v_lt (.i (.ofNat 4)) v2 fun v => j v M n) fun v3 M n => v_pick v1 (.bool true) v3 fun v4 => e.setK q1 v4 fun e => k e M n))
def R50_2 : RegF := fun a e M n k => e.getK q0 fun v0 => VV.onAny v0 (mksV 28 1 24 [.nils] v0 v0 M n fun v1 M n => v_bld [.nils] [(0, 1, v1)] fun v2 => bxV 196 v2 M n fun v3 M n => VV.onAny v3 (VV.onAny (.i (.ofNat 0)) (e.setK q2 v3 fun e => e.setK q3 (.i (.ofNat 0)) fun e => k e M n)))
def R50_3 : RegF := fun a e M n k => VV.onAny (.nil) (VV.onAny (.i (.ofNat 2)) (e.setK q2 (.nil) fun e => e.setK q3 (.i (.ofNat 2)) fun e => k e M n))
def S50 : List (P × I) := [(s0, q0), (s9, q1), (s2, q2), (s3, q3)]
def G50 : F2 := .mk (fun a e M n k => R50_0 a e M n fun e M n => R50_1 a e M n fun e M n => e.getK q1 fun v => v.onB fun c => Bool.rec (R50_2 a e M n fun e M n => k .r e M n) (R50_3 a e M n fun e M n => k .r e M n) c) [.t q2, .t q3] [q0]
def R51_0 : RegF := fun a e M n k => VV.onAny (.nil) (VV.onAny (.i (.ofNat 0)) (e.setK q2 (.nil) fun e => e.setK q3 (.i (.ofNat 0)) fun e => k e M n))
def R51_1 : RegF := fun a e M n k => e.getK q0 fun v0 => VV.onAny v0 (v_lt v0 (.i (.ofNat 0)) fun v1 => VV.onAny v1 (gdK v1 false .off M n (fun j => v_mv v0 fun v => j v M n) fun v2 M n => gdK v1 false .off M n (fun j => v_le (.i (.ofNat 16777216)) v2 fun v => j v M n) fun v3 M n => v_pick v1 (.bool true) v3 fun v4 => e.setK q1 v4 fun e => k e M n))
def R51_2 : RegF := fun a e M n k => e.getK q0 fun v0 => VV.onAny v0 (v_bld ([(.i (.ofNat 0))] ++ rep 256 .nils ++ [(.i (.ofNat 0))]) [(0, 1, v0)] fun v1 => bxV 149 v1 M n fun v2 M n => VV.onAny v2 (VV.onAny (.i (.ofNat 0)) (e.setK q2 v2 fun e => e.setK q3 (.i (.ofNat 0)) fun e => k e M n)))
def R51_3 : RegF := fun a e M n k => VV.onAny (.nil) (VV.onAny (.i (.ofNat 2)) (e.setK q2 (.nil) fun e => e.setK q3 (.i (.ofNat 2)) fun e => k e M n))
def S51 : List (P × I) := [(s0, q0), (s9, q1), (s2, q2), (s3, q3)]
def G51 : F2 := .mk (fun a e M n k => R51_0 a e M n fun e M n => R51_1 a e M n fun e M n => e.getK q1 fun v => v.onB fun c => Bool.rec (R51_2 a e M n fun e M n => k .r e M n) (R51_3 a e M n fun e M n => k .r e M n) c) [.t q2, .t q3] [q0]
def R53_0 : RegF := fun a e M n k => VV.onAny (.nil) (VV.onAny (.i (.ofNat 0)) (e.setK q2 (.nil) fun e => e.setK q3 (.i (.ofNat 0)) fun e => k e M n))
def R53_1 : RegF := fun a e M n k => e.getK q0 fun v0 => VV.onAny v0 (v_lt v0 (.i (.ofNat 1)) fun v1 => VV.onAny v1 (gdK v1 false .off M n (fun j => v_mv v0 fun v => j v M n) fun v2 M n => gdK v1 false .off M n (fun j => v_lt (.i (.ofNat 1099511627776)) v2 fun v => j v M n) fun v3 M n => v_pick v1 (.bool true) v3 fun v4 => e.setK q1 v4 fun e => k e M n))
def R53_2 : RegF := fun a e M n k => e.getK q0 fun v0 => VV.onAny v0 (v_bld [(.i (.ofNat 0)), (.i (.ofNat 0)), .nils] [(0, 1, v0)] fun v1 => bxV 170 v1 M n fun v2 M n => VV.onAny v2 (VV.onAny (.i (.ofNat 0)) (e.setK q2 v2 fun e => e.setK q3 (.i (.ofNat 0)) fun e => k e M n)))
def R53_3 : RegF := fun a e M n k => VV.onAny (.nil) (VV.onAny (.i (.ofNat 2)) (e.setK q2 (.nil) fun e => e.setK q3 (.i (.ofNat 2)) fun e => k e M n))
def S53 : List (P × I) := [(s0, q0), (s9, q1), (s2, q2), (s3, q3)]
def G53 : F2 := .mk (fun a e M n k => R53_0 a e M n fun e M n => R53_1 a e M n fun e M n => e.getK q1 fun v => v.onB fun c => Bool.rec (R53_2 a e M n fun e M n => k .r e M n) (R53_3 a e M n fun e M n => k .r e M n) c) [.t q2, .t q3] [q0]
def R54_0 : RegF := fun a e M n k => VV.onAny (.nil) (VV.onAny (.i (.ofNat 0)) (e.setK q5 (.nil) fun e => e.setK q6 (.i (.ofNat 0)) fun e => k e M n))
def R54_1 : RegF := fun a e M n k => e.getK q0 fun v0 => VV.onAny v0 (callV a s101 [v0] M n fun v1 M n => VV.onAny v1 (v_ext v1 0 fun v2 => v_ext v1 1 fun v3 => VV.onAny v2 (VV.onAny v3 (e.setK q2 v2 fun e => e.setK q1 v3 fun e => k e M n))))
def R54_2 : RegF := fun a e M n k => e.getK q1 fun v0 => VV.onAny v0 (v_ne v0 (.i (.ofNat 0)) fun v1 => e.setK q3 v1 fun e => k e M n)
def R54_3 : RegF := fun a e M n k => e.getK q2 fun v0 => VV.onAny v0 (callV a s102 [v0] M n fun v1 M n => VV.onAny v1 (e.setK q4 v1 fun e => k e M n))
def R54_4 : RegF := fun a e M n k => e.getK q2 fun v0 => e.getK q4 fun v1 => VV.onAny v0 (VV.onAny v1 (VV.onAny v1 (VV.onAny v0 (callV a s105 [v0] M n fun v2 M n => callV a s104 [v2] M n fun v3 M n => callV a s103 [v1, v3] M n fun v4 M n => callV a s106 [] M n fun v5 M n => v_bld [.nil, .nil, .nil, .nil] [(0, 1, v0), (1, 1, v1), (2, 1, v4), (3, 1, v5)] fun v6 => bxV 211 v6 M n fun v7 M n => VV.onAny v7 (VV.onAny (.i (.ofNat 0)) (e.setK q5 v7 fun e => e.setK q6 (.i (.ofNat 0)) fun e => k e M n))))))
def R54_5 : RegF := fun a e M n k => e.getK q1 fun v0 => VV.onAny v0 (VV.onAny (.nil) (VV.onAny v0 (e.setK q5 (.nil) fun e => e.setK q6 v0 fun e => k e M n)))
def S54 : List (P × I) := [(s0, q0), (s5, q1), (s4, q2), (s13, q3), (s6, q4), (s2, q5), (s3, q6)]
def G54 : F2 := .mk (fun a e M n k => R54_0 a e M n fun e M n => R54_1 a e M n fun e M n => R54_2 a e M n fun e M n => e.getK q3 fun v => v.onB fun c => Bool.rec (R54_3 a e M n fun e M n => R54_4 a e M n fun e M n => k .r e M n) (R54_5 a e M n fun e M n => k .r e M n) c) [.t q5, .t q6] [q0]
def R55_0 : RegF := fun a e M n k => VV.onAny (.i (.ofNat 0)) (e.setK q5 (.i (.ofNat 0)) fun e => k e M n)
def R55_1 : RegF := fun a e M n k => e.getK q0 fun v0 => VV.onAny v0 (v_nqP false v0 fun v1 => e.setK q3 v1 fun e => k e M n)
def R55_2 : RegF := fun a e M n k => e.getK q0 fun v0 => e.getK q1 fun v1 => VV.onAny v0 (v_nck v0 fun v2 => v_fa v2 3 fun v3 => ldV M v3 1 false fun _ v4 => VV.onAny v1 (callV a s107 [v4, v1, (.i (.negSucc 0))] M n fun v5 M n => VV.onAny v5 (e.setK q2 v5 fun e => k e M n)))
def R55_3 : RegF := fun a e M n k => e.getK q2 fun v0 => VV.onAny v0 (v_ne v0 (.i (.ofNat 0)) fun v1 => e.setK q4 v1 fun e => k e M n)
def R55_4 : RegF := fun a e M n k => e.getK q0 fun v0 => e.getK q1 fun v1 => VV.onAny v0 (v_nck v0 fun v2 => v_fa v2 2 fun v3 => ldV M v3 1 false fun _ v4 => VV.onAny v1 (callV a s108 [v4, v1] M n fun v5 M n => VV.onAny v5 (e.setK q5 v5 fun e => k e M n)))
def R55_5 : RegF := fun a e M n k => e.getK q2 fun v0 => VV.onAny v0 (VV.onAny v0 (e.setK q5 v0 fun e => k e M n))
def R55_6 : RegF := fun a e M n k => VV.onAny (.i (.ofNat 1)) (e.setK q5 (.i (.ofNat 1)) fun e => k e M n)
def S55 : List (P × I) := [(s0, q0), (s1, q1), (s5, q2), (s7, q3), (s15, q4), (s4, q5)]
def G55 : F2 := .mk (fun a e M n k => R55_0 a e M n fun e M n => R55_1 a e M n fun e M n => e.getK q3 fun v => v.onB fun c => Bool.rec (R55_2 a e M n fun e M n => R55_3 a e M n fun e M n => e.getK q4 fun v => v.onB fun c => Bool.rec (R55_4 a e M n fun e M n => k .r e M n) (R55_5 a e M n fun e M n => k .r e M n) c) (R55_6 a e M n fun e M n => k .r e M n) c) [.t q5] [q0, q1]
def R56_0 : RegF := fun a e M n k => VV.onAny (.i (.ofNat 0)) (e.setK q2 (.i (.ofNat 0)) fun e => k e M n)
def R56_1 : RegF := fun a e M n k => e.getK q0 fun v0 => e.getK q1 fun v1 => VV.onAny v0 (VV.onAny v1 (v_mul (.i (.ofNat 6)) v1 fun v2 => v_conv .u64 v2 fun v3 => v_kop .shr v0 v3 fun v4 => v_kop .and v4 (.i (.ofNat 63)) fun v5 => VV.onAny v5 (e.setK q2 v5 fun e => k e M n)))
def S56 : List (P × I) := [(s0, q0), (s1, q1), (s4, q2)]
def G56 : F2 := .mk (fun a e M n k => R56_0 a e M n fun e M n => R56_1 a e M n fun e M n => k .r e M n) [.t q2] [q0, q1]
def R60_0 : RegF := fun a e M n k => e.getK q0 fun v0 => VV.onAny v0 (v_lenS v0 fun v1 => VV.onAny v1 (e.setK q1 v1 fun e => k e M n))
def R60_1 : RegF := fun a e M n k => e.getK q0 fun v0 => e.getK q1 fun v1 => VV.onAny v0 (VV.onAny v1 (VV.onAny v1 (v_conv .u64 v1 fun v2 => callV a s110 [v2] M n fun v3 M n => callV a s109 [v0, (.i (.ofNat 0)), v1, v3] M n fun v4 M n => k e M n)))
def S60 : List (P × I) := [(s0, q0), (s2, q1)]
def G60 : F2 := .mk (fun a e M n k => R60_0 a e M n fun e M n => R60_1 a e M n fun e M n => k .n e M n) [] [q0]
def R62_0 : RegF := fun a e M n k => e.getK q0 fun v0 => e.getK q1 fun v1 => (fun M0 => VV.onAny v0 (v_nck v0 fun v2 => v_fa v2 2 fun v3 => ldV M v3 1 false fun _ v4 => VV.onAny v1 (VV.onAny v0 (v_nck v0 fun v5 => v_fa v5 2 fun v6 => ldV M v6 1 false fun _ v7 => VV.onAny v1 (v_ixS v4 v1 21 fun v8 => v_fa v8 5 fun v9 => stV M v9 (.i (.ofNat 1)) 1 fun M => v_ixS v7 v1 21 fun v10 => v_fa v10 6 fun v11 => Bool.rec false (stV M v11 (.i (.negSucc 0)) 1 fun M => k e M n) (keptB M0 M [])))))) M
def S62 : List (P × I) := [(s0, q0), (s1, q1)]
def G62 : F2 := .mk (fun a e M n k => R62_0 a e M n fun e M n => k .n e M n) [] [q0, q1]
def R65_0 : RegF := fun a e M n k => e.getK q0 fun v0 => e.getK q1 fun v1 => e.getK q2 fun v2 => (fun M0 => VV.onAny v0 (v_nck v0 fun v3 => v_fa v3 2 fun v4 => ldV M v4 1 false fun _ v5 => VV.onAny v1 (v_ixS v5 v1 21 fun v6 => ldV M v6 21 true fun _ v7 => VV.onAny v0 (v_nck v0 fun v8 => v_fa v8 0 fun v9 => ldV M v9 1 false fun _ v10 => VV.onAny v1 (v_ixS v10 v1 8 fun v11 => ldV M v11 8 true fun _ v12 => VV.onAny v2 (callV a s115 [v7, v12, v2] M n fun v13 M n => VV.onAny v13 (v_ext v13 0 fun v14 => v_ext v13 1 fun v15 => alV 109 (rep 9 (.i (.ofNat 0)) ++ [(.bool false), (.i (.ofNat 0)), (.i (.ofNat 0)), (.i (.ofNat 0)), (.str []), (.bool false), (.i (.ofNat 0)), (.i (.ofNat 0)), (.i (.ofNat 0)), (.i (.ofNat 0)), (.i (.ofNat 0)), .nils]) M n fun v16 M n => stV M v16 v14 21 fun M => VV.onAny v15 (Bool.rec false (e.setK q5 v16 fun e => e.setK q3 v15 fun e => k e M n) (keptB M0 M []))))))))) M
def R65_1 : RegF := fun a e M n k => e.getK q3 fun v0 => VV.onAny v0 (e.setK q4 v0 fun e => k e M n)
def R65_2 : RegF := fun a e M n k => e.getK q0 fun v0 => e.getK q1 fun v1 => e.getK q5 fun v2 => (fun M0 => VV.onAny v0 (v_nck v0 fun v3 => v_fa v3 2 fun v4 => ldV M v4 1 false fun _ v5 => VV.onAny v1 (ldV M v2 21 true fun _ v6 => v_ixS v5 v1 21 fun v7 => Bool.rec false (stV M v7 v6 21 fun M => k e M n) (keptB M0 M [])))) M
def S65 : List (P × I) := [(s0, q0), (s1, q1), (s2, q2), (s7, q3), (s27, q4), (s6, q5)]
def G65 : F2 := .mk (fun a e M n k => R65_0 a e M n fun e M n => R65_1 a e M n fun e M n => (fun (j0 : En → Mem → P → Bool) => e.getK q4 fun v => v.onB fun c => Bool.rec (j0 e M n) (R65_2 a e M n fun e M n => j0 e M n) c) fun e M n => k .n e M n) [] [q0, q1, q2]
def R66_0 : RegF := fun a e M n k => VV.onAny (.i (.ofNat 0)) (e.setK q7 (.i (.ofNat 0)) fun e => k e M n)
def R66_1 : RegF := fun a e M n k => VV.onAny (.i (.negSucc 0)) (e.setK q7 (.i (.negSucc 0)) fun e => k e M n)
def R66_2 : RegF := fun a e M n k => e.getK q0 fun v0 => VV.onAny v0 (v_lenS v0 fun v1 => VV.onAny (.i (.ofNat 0)) (e.setK q4 v1 fun e => e.setK q2 (.i (.ofNat 0)) fun e => k e M n))
def R66_3 : RegF := fun a e M n k => e.getK q2 fun v0 => e.getK q4 fun v1 => v_lt v0 v1 fun v2 => e.setK q5 v2 fun e => k e M n
def R66_4 : RegF := fun a e M n k => e.getK q2 fun v0 => VV.onAny v0 (VV.onAny v0 (e.setK q3 v0 fun e => k e M n))
def R66_5 : RegF := fun a e M n k => e.getK q1 fun v0 => e.getK q0 fun v1 => e.getK q3 fun v2 => VV.onAny v0 (VV.onAny v1 (VV.onAny v2 (v_ixS v1 v2 21 fun v3 => ldV M v3 21 true fun _ v4 => cvV a v0 [v4] M n fun v5 M n => e.setK q6 v5 fun e => k e M n)))
def R66_6 : RegF := fun a e M n k => e.getK q2 fun v0 => v_add v0 (.i (.ofNat 1)) fun v1 => VV.onAny v1 (e.setK q2 v1 fun e => k e M n)
def R66_7 : RegF := fun a e M n k => e.getK q3 fun v0 => VV.onAny v0 (VV.onAny v0 (e.setK q7 v0 fun e => k e M n))
def S66 : List (P × I) := [(s0, q0), (s1, q1), (s8, q2), (s5, q3), (s7, q4), (s9, q5), (s16, q6), (s4, q7)]
def G66 : F2 := .mk (fun a e M n k => R66_0 a e M n fun e M n => (fun (j0 : En → Mem → P → Bool) => R66_2 a e M n fun e M n => (fun (j1 : En → Mem → P → Bool) => loopK (fun a e M n k => R66_3 a e M n fun e M n => e.getK q5 fun v => v.onB fun c => Bool.rec (k (.x 0) e M n) (R66_4 a e M n fun e M n => R66_5 a e M n fun e M n => e.getK q6 fun v => v.onB fun c => Bool.rec (R66_6 a e M n fun e M n => k .n e M n) (R66_7 a e M n fun e M n => k .r e M n) c) c) a e M n fun ex e M n => Ex.rec (j1 e M n) (k .r e M n) (fun id => Bool.rec (k (.x id) e M n) (j1 e M n) (Nat.beq id 0)) ex) fun e M n => j0 e M n) fun e M n => R66_1 a e M n fun e M n => k .r e M n) [.t q7] [q0, q1]
def R67_0 : RegF := fun a e M n k => e.getK q0 fun v0 => bxV 109 v0 M n fun v1 M n => VV.onAny (.bool false) (e.setK q1 v1 fun e => e.setK q2 (.bool false) fun e => k e M n)
def R67_1 : RegF := fun a e M n k => e.getK q1 fun v0 => v_fa v0 9 fun v1 => ldV M v1 1 false fun _ v2 => VV.onAny v2 (e.setK q2 v2 fun e => k e M n)
def S67 : List (P × I) := [(s0, q0), (s1, q1), (s2, q2)]
def G67 : F2 := .mk (fun a e M n k => R67_0 a e M n fun e M n => R67_1 a e M n fun e M n => k .r e M n) [.t q2] [q0]
def R68_0 : RegF := fun a e M n k => VV.onAny (.i (.ofNat 0)) (VV.onAny (.bool false) (e.setK q3 (.i (.ofNat 0)) fun e => e.setK q4 (.bool false) fun e => k e M n))
def R68_1 : RegF := fun a e M n k => e.getK q0 fun v0 => VV.onAny v0 (v_nck v0 fun v1 => v_fa v1 18 fun v2 => v_fa v2 2 fun v3 => ldV M v3 1 false fun _ v4 => v_lt (.i (.ofNat 0)) v4 fun v5 => e.setK q1 v5 fun e => k e M n)
def R68_2 : RegF := fun a e M n k => e.getK q0 fun v0 => VV.onAny v0 (v_nck v0 fun v1 => v_fa v1 8 fun v2 => ldV M v2 1 false fun _ v3 => callV a s116 [v3, (.fn s117 [] [])] M n fun v4 M n => VV.onAny v4 (e.setK q2 v4 fun e => k e M n))
def R68_3 : RegF := fun a e M n k => e.getK q2 fun v0 => VV.onAny v0 (VV.onAny v0 (v_le (.i (.ofNat 0)) v0 fun v1 => VV.onAny v0 (VV.onAny v1 (e.setK q3 v0 fun e => e.setK q4 v1 fun e => k e M n))))
def R68_4 : RegF := fun a e M n k => e.getK q0 fun v0 => VV.onAny v0 (v_nck v0 fun v1 => v_fa v1 18 fun v2 => v_fa v2 0 fun v3 => ldV M v3 1 false fun _ v4 => VV.onAny v4 (VV.onAny (.bool true) (e.setK q3 v4 fun e => e.setK q4 (.bool true) fun e => k e M n)))
def S68 : List (P × I) := [(s0, q0), (s10, q1), (s4, q2), (s2, q3), (s3, q4)]
def G68 : F2 := .mk (fun a e M n k => R68_0 a e M n fun e M n => R68_1 a e M n fun e M n => e.getK q1 fun v => v.onB fun c => Bool.rec (R68_2 a e M n fun e M n => R68_3 a e M n fun e M n => k .r e M n) (R68_4 a e M n fun e M n => k .r e M n) c) [.t q3, .t q4] [q0]
def R69_0 : RegF := fun a e M n k => alV 84 [(.i (.ofNat 0)), .nils, .nils, .nils, .nils] M n fun v0 M n => e.setK q1 v0 fun e => k e M n
def R69_1 : RegF := fun a e M n k => e.getK q0 fun v0 => VV.onAny v0 (v_nqP false v0 fun v1 => e.setK q6 v1 fun e => k e M n)
def R69_2 : RegF := fun a e M n k => e.getK q0 fun v0 => (fun M0 => VV.onAny v0 (v_nck v0 fun v1 => v_fa v1 1 fun v2 => ldV M v2 1 false fun bv3 v3 => VV.onAny v0 (v_nck v0 fun v4 => v_fa v4 5 fun v5 => ldV M v5 1 false fun _ v6 => callV a s35 [v6] M n fun v7 M n => VV.onAny v0 (v_nck v0 fun v8 => v_fa v8 9 fun v9 => ldV M v9 1 false fun bv10 v10 => callV a s119 [v10] M n fun v11 M n => v_bld [(.i (.ofNat 0)), .nils, .nils, .nils, .nils] [(0, 1, v3), (2, 1, v7), (4, 1, v11)] fun v12 => alV 84 [(.i (.ofNat 0)), .nils, .nils, .nils, .nils] M n fun v13 M n => Bool.rec false (stV M v13 v12 5 fun M => e.setK q3 v13 fun e => k e M n) (keptB M0 M (bv10 :: (bv3 :: []))))))) M
def R69_3 : RegF := fun a e M n k => e.getK q3 fun v0 => e.getK q1 fun v1 => ldV M v0 5 true fun _ v2 => stV M v1 v2 5 fun M => k e M n
def R69_4 : RegF := fun a e M n k => e.getK q0 fun v0 => VV.onAny v0 (v_nck v0 fun v1 => v_fa v1 8 fun v2 => ldV M v2 1 false fun _ v3 => v_lenS v3 fun v4 => VV.onAny (.i (.ofNat 0)) (e.setK q13 v3 fun e => e.setK q11 v4 fun e => e.setK q4 (.i (.ofNat 0)) fun e => k e M n))
def R69_5 : RegF := fun a e M n k => e.getK q4 fun v0 => e.getK q11 fun v1 => v_lt v0 v1 fun v2 => e.setK q12 v2 fun e => k e M n
def R69_6 : RegF := fun a e M n k => e.getK q13 fun v0 => e.getK q4 fun v1 => v_ixS v0 v1 1 fun v2 => ldV M v2 1 false fun _ v3 => VV.onAny v3 (e.setK q14 v3 fun e => k e M n)
def R69_7 : RegF := fun a e M n k => e.getK q14 fun v0 => VV.onAny v0 (callV a s118 [v0] M n fun v1 M n => VV.onAny v1 (v_ext v1 0 fun v2 => v_ext v1 1 fun v3 => VV.onAny v2 (VV.onAny v3 (e.setK q15 v3 fun e => k e M n))))
def R69_8 : RegF := fun a e M n k => e.getK q3 fun v0 => e.getK q15 fun v1 => v_fa v0 3 fun v2 => ldV M v2 1 false fun _ v3 => VV.onAny v1 (bslV 4 1 1 [(.bool false)] [(0, 1, v1)] M n fun v4 M n => appV 4 1 1 v3 v4 M n fun v5 M n => v_fa v0 3 fun v6 => stV M v6 v5 1 fun M => k e M n)
def R69_9 : RegF := fun a e M n k => e.getK q4 fun v0 => v_add v0 (.i (.ofNat 1)) fun v1 => VV.onAny v1 (e.setK q4 v1 fun e => k e M n)
def R69_10 : RegF := fun a e M n k => e.getK q0 fun v0 => VV.onAny v0 (v_nck v0 fun v1 => v_fa v1 2 fun v2 => ldV M v2 1 false fun _ v3 => v_lenS v3 fun v4 => VV.onAny (.i (.ofNat 0)) (e.setK q9 v3 fun e => e.setK q7 v4 fun e => e.setK q2 (.i (.ofNat 0)) fun e => k e M n))
def R69_11 : RegF := fun a e M n k => e.getK q2 fun v0 => e.getK q7 fun v1 => v_lt v0 v1 fun v2 => e.setK q8 v2 fun e => k e M n
def R69_12 : RegF := fun a e M n k => e.getK q2 fun v0 => e.getK q9 fun v1 => VV.onAny v0 (v_ixS v1 v0 21 fun v2 => ldV M v2 21 true fun _ v3 => alV 109 (rep 9 (.i (.ofNat 0)) ++ [(.bool false), (.i (.ofNat 0)), (.i (.ofNat 0)), (.i (.ofNat 0)), (.str []), (.bool false), (.i (.ofNat 0)), (.i (.ofNat 0)), (.i (.ofNat 0)), (.i (.ofNat 0)), (.i (.ofNat 0)), .nils]) M n fun v4 M n => VV.onAny v0 (stV M v4 v3 21 fun M => e.setK q5 v4 fun e => e.setK q10 v0 fun e => k e M n))
def R69_13 : RegF := fun a e M n k => e.getK q0 fun v0 => e.getK q10 fun v1 => e.getK q5 fun v2 => VV.onAny v0 (v_nck v0 fun v3 => v_fa v3 5 fun v4 => ldV M v4 1 false fun _ v5 => VV.onAny v1 (callV a s120 [v5, v1] M n fun v6 M n => v_fa v2 20 fun v7 => stV M v7 v6 1 fun M => k e M n))
def R69_14 : RegF := fun a e M n k => e.getK q3 fun v0 => e.getK q5 fun v1 => v_fa v0 1 fun v2 => ldV M v2 1 false fun _ v3 => ldV M v1 21 true fun _ v4 => bslV 109 21 1 (rep 9 (.i (.ofNat 0)) ++ [(.bool false), (.i (.ofNat 0)), (.i (.ofNat 0)), (.i (.ofNat 0)), (.str []), (.bool false), (.i (.ofNat 0)), (.i (.ofNat 0)), (.i (.ofNat 0)), (.i (.ofNat 0)), (.i (.ofNat 0)), .nils]) [(0, 21, v4)] M n fun v5 M n => appV 109 21 192 v3 v5 M n fun v6 M n => v_fa v0 1 fun v7 => stV M v7 v6 1 fun M => k e M n
def R69_15 : RegF := fun a e M n k => e.getK q2 fun v0 => v_add v0 (.i (.ofNat 1)) fun v1 => VV.onAny v1 (e.setK q2 v1 fun e => k e M n)
def R69_16 : RegF := fun a e M n k => e.getK q1 fun v0 => v_bld [(.i (.ofNat 0)), .nils, .nils, .nils, .nils] [] fun v1 => stV M v0 v1 5 fun M => k e M n
def S69 : List (P × I) := [(s0, q0), (s2, q1), (s33, q2), (s3, q3), (s57, q4), (s5, q5), (s11, q6), (s32, q7), (s34, q8), (s31, q9), (s4, q10), (s56, q11), (s58, q12), (s55, q13), (s7, q14), (s9, q15)]
def G69 : F2 := .mk (fun a e M n k => R69_0 a e M n fun e M n => R69_1 a e M n fun e M n => e.getK q6 fun v => v.onB fun c => Bool.rec (R69_2 a e M n fun e M n => (fun (j0 : En → Mem → P → Bool) => R69_10 a e M n fun e M n => (fun (j3 : En → Mem → P → Bool) => loopK (fun a e M n k => R69_11 a e M n fun e M n => e.getK q8 fun v => v.onB fun c => Bool.rec (k (.x 0) e M n) (R69_12 a e M n fun e M n => R69_13 a e M n fun e M n => R69_14 a e M n fun e M n => R69_15 a e M n fun e M n => k .n e M n) c) a e M n fun ex e M n => Ex.rec (j3 e M n) (k .r e M n) (fun id => Bool.rec (k (.x id) e M n) (j3 e M n) (Nat.beq id 0)) ex) fun e M n => j0 e M n) fun e M n => (fun (j1 : En → Mem → P → Bool) => R69_4 a e M n fun e M n => (fun (j2 : En → Mem → P → Bool) => loopK (fun a e M n k => R69_5 a e M n fun e M n => e.getK q12 fun v => v.onB fun c => Bool.rec (k (.x 2) e M n) (R69_6 a e M n fun e M n => R69_7 a e M n fun e M n => R69_8 a e M n fun e M n => R69_9 a e M n fun e M n => k .n e M n) c) a e M n fun ex e M n => Ex.rec (j2 e M n) (k .r e M n) (fun id => Bool.rec (k (.x id) e M n) (j2 e M n) (Nat.beq id 2)) ex) fun e M n => j1 e M n) fun e M n => R69_3 a e M n fun e M n => k .r e M n) (R69_16 a e M n fun e M n => k .r e M n) c) [.c q1 5 true] [q0]
def R71_0 : RegF := fun a e M n k => VV.onAny (.i (.ofNat 0)) (e.setK q8 (.i (.ofNat 0)) fun e => k e M n)
def R71_1 : RegF := fun a e M n k => e.getK q0 fun v0 => VV.onAny v0 (callV a s122 [v0] M n fun v1 M n => VV.onAny v1 (v_ext v1 0 fun v2 => v_ext v1 1 fun v3 => VV.onAny v2 (VV.onAny v3 (e.setK q1 v2 fun e => e.setK q3 v3 fun e => k e M n))))
def R71_2 : RegF := fun a e M n k => e.getK q3 fun v0 => VV.onAny v0 (v_not v0 fun v1 => e.setK q4 v1 fun e => k e M n)
def R71_3 : RegF := fun a e M n k => e.getK q0 fun v0 => e.getK q1 fun v1 => VV.onAny v0 (VV.onAny v1 (callV a s123 [v0, v1] M n fun v2 M n => VV.onAny v2 (v_ext v2 0 fun v3 => v_ext v2 1 fun v4 => VV.onAny v3 (VV.onAny v4 (e.setK q2 v3 fun e => e.setK q5 v4 fun e => k e M n)))))
def R71_4 : RegF := fun a e M n k => e.getK q5 fun v0 => VV.onAny v0 (e.setK q6 v0 fun e => k e M n)
def R71_5 : RegF := fun a e M n k => e.getK q0 fun v0 => e.getK q1 fun v1 => VV.onAny v0 (VV.onAny v1 (callV a s125 [v0, v1] M n fun v2 M n => v_not v2 fun v3 => e.setK q7 v3 fun e => k e M n))
def R71_6 : RegF := fun a e M n k => e.getK q0 fun v0 => e.getK q1 fun v1 => VV.onAny v0 (VV.onAny v1 (VV.onAny v0 (v_nck v0 fun v2 => v_fa v2 1 fun v3 => ldV M v3 1 false fun _ v4 => callV a s126 [v0, v1, v4] M n fun v5 M n => k e M n)))
def R71_7 : RegF := fun a e M n k => e.getK q1 fun v0 => VV.onAny v0 (VV.onAny v0 (e.setK q8 v0 fun e => k e M n))
def R71_8 : RegF := fun a e M n k => e.getK q0 fun v0 => e.getK q1 fun v1 => e.getK q2 fun v2 => VV.onAny v0 (v_nck v0 fun v3 => v_fa v3 5 fun v4 => ldV M v4 1 false fun _ v5 => VV.onAny v1 (VV.onAny v2 (callV a s124 [v5, v1, v2] M n fun v6 M n => k e M n)))
def R71_9 : RegF := fun a e M n k => e.getK q0 fun v0 => e.getK q1 fun v1 => e.getK q2 fun v2 => (fun M0 => VV.onAny v0 (v_nck v0 fun v3 => v_fa v3 2 fun v4 => ldV M v4 1 false fun _ v5 => VV.onAny v1 (VV.onAny v0 (v_nck v0 fun v6 => v_fa v6 2 fun v7 => ldV M v7 1 false fun _ v8 => VV.onAny v1 (VV.onAny v2 (v_ixS v5 v1 21 fun v9 => v_fa v9 5 fun v10 => stV M v10 (.i (.ofNat 2)) 1 fun M => v_ixS v8 v1 21 fun v11 => v_fa v11 6 fun v12 => Bool.rec false (stV M v12 v2 1 fun M => k e M n) (keptB M0 M []))))))) M
def R71_10 : RegF := fun a e M n k => VV.onAny (.i (.negSucc 0)) (e.setK q8 (.i (.negSucc 0)) fun e => k e M n)
def S71 : List (P × I) := [(s0, q0), (s3, q1), (s5, q2), (s4, q3), (s13, q4), (s6, q5), (s20, q6), (s46, q7), (s2, q8)]
def G71 : F2 := .mk (fun a e M n k => R71_0 a e M n fun e M n => (fun (j0 : En → Mem → P → Bool) => loopK (fun a e M n k => (fun (j1 : En → Mem → P → Bool) => R71_1 a e M n fun e M n => R71_2 a e M n fun e M n => e.getK q4 fun v => v.onB fun c => Bool.rec (R71_3 a e M n fun e M n => R71_4 a e M n fun e M n => e.getK q6 fun v => v.onB fun c => Bool.rec (R71_5 a e M n fun e M n => e.getK q7 fun v => v.onB fun c => Bool.rec (R71_6 a e M n fun e M n => j1 e M n) (R71_7 a e M n fun e M n => k .r e M n) c) (R71_8 a e M n fun e M n => R71_9 a e M n fun e M n => j1 e M n) c) (R71_10 a e M n fun e M n => k .r e M n) c) fun e M n => k .n e M n) a e M n fun ex e M n => Ex.rec (j0 e M n) (k .r e M n) (fun id => Bool.rec (k (.x id) e M n) (j0 e M n) (Nat.beq id 0)) ex) fun e M n => k .n e M n) [.t q8] [q0]
def R72_0 : RegF := fun a e M n k => e.getK q0 fun v0 => bxV 109 v0 M n fun v1 M n => alV 109 (rep 9 (.i (.ofNat 0)) ++ [(.bool false), (.i (.ofNat 0)), (.i (.ofNat 0)), (.i (.ofNat 0)), (.str []), (.bool false), (.i (.ofNat 0)), (.i (.ofNat 0)), (.i (.ofNat 0)), (.i (.ofNat 0)), (.i (.ofNat 0)), .nils]) M n fun v2 M n => e.setK q2 v1 fun e => e.setK q3 v2 fun e => k e M n
def R72_1 : RegF := fun a e M n k => e.getK q2 fun v0 => e.getK q1 fun v1 => v_fa v0 17 fun v2 => ldV M v2 1 false fun _ v3 => VV.onAny v1 (bslV 3 1 2 [(.i (.ofNat 0)), (.i (.ofNat 0))] [(0, 1, v3), (1, 1, v1)] M n fun v4 M n => callV a s114 [v4] M n fun v5 M n => v_fa v0 17 fun v6 => stV M v6 v5 1 fun M => k e M n)
def R72_2 : RegF := fun a e M n k => e.getK q2 fun v0 => e.getK q3 fun v1 => ldV M v0 21 true fun _ v2 => callV a s127 [v2] M n fun v3 M n => stV M v1 v3 21 fun M => k e M n
def S72 : List (P × I) := [(s0, q0), (s1, q1), (s2, q2), (s4, q3)]
def G72 : F2 := .mk (fun a e M n k => R72_0 a e M n fun e M n => R72_1 a e M n fun e M n => R72_2 a e M n fun e M n => k .r e M n) [.c q3 21 true] [q0, q1]
def R73_0 : RegF := fun a e M n k => e.getK q0 fun v0 => VV.onAny v0 (v_nqP false v0 fun v1 => e.setK q4 v1 fun e => k e M n)
def R73_1 : RegF := fun a e M n k => e.getK q0 fun v0 => e.getK q1 fun v1 => VV.onAny v0 (v_nck v0 fun v2 => v_fa v2 1 fun v3 => ldV M v3 1 false fun _ v4 => VV.onAny v1 (lkuV .nils false v4 v1 M fun v5 => v_lenS v5 fun v6 => VV.onAny (.i (.ofNat 0)) (e.setK q5 v6 fun e => e.setK q3 (.i (.ofNat 0)) fun e => k e M n)))
def R73_2 : RegF := fun a e M n k => e.getK q3 fun v0 => e.getK q5 fun v1 => v_lt v0 v1 fun v2 => e.setK q6 v2 fun e => k e M n
def R73_3 : RegF := fun a e M n k => e.getK q3 fun v0 => VV.onAny v0 (VV.onAny v0 (e.setK q7 v0 fun e => k e M n))
def R73_4 : RegF := fun a e M n k => e.getK q0 fun v0 => e.getK q1 fun v1 => e.getK q7 fun v2 => VV.onAny v0 (v_nck v0 fun v3 => v_fa v3 1 fun v4 => ldV M v4 1 false fun _ v5 => VV.onAny v1 (lkuV .nils false v5 v1 M fun v6 => VV.onAny v2 (v_ixS v6 v2 2 fun v7 => VV.onAny v7 (e.setK q8 v7 fun e => k e M n))))
def R73_5 : RegF := fun a e M n k => e.getK q8 fun v0 => e.getK q2 fun v1 => VV.onAny v0 (VV.onAny v0 (v_nck v0 fun v2 => v_fa v2 1 fun v3 => ldV M v3 1 false fun _ v4 => VV.onAny v1 (bslV 3 1 2 [(.i (.ofNat 0)), (.i (.ofNat 0))] [(0, 1, v4), (1, 1, v1)] M n fun v5 M n => callV a s114 [v5] M n fun v6 M n => v_nck v0 fun v7 => v_fa v7 1 fun v8 => stV M v8 v6 1 fun M => k e M n)))
def R73_6 : RegF := fun a e M n k => e.getK q3 fun v0 => v_add v0 (.i (.ofNat 1)) fun v1 => VV.onAny v1 (e.setK q3 v1 fun e => k e M n)
def S73 : List (P × I) := [(s0, q0), (s1, q1), (s2, q2), (s17, q3), (s9, q4), (s16, q5), (s18, q6), (s6, q7), (s7, q8)]
def G73 : F2 := .mk (fun a e M n k => R73_0 a e M n fun e M n => e.getK q4 fun v => v.onB fun c => Bool.rec (R73_1 a e M n fun e M n => (fun (j0 : En → Mem → P → Bool) => loopK (fun a e M n k => R73_2 a e M n fun e M n => e.getK q6 fun v => v.onB fun c => Bool.rec (k (.x 0) e M n) (R73_3 a e M n fun e M n => R73_4 a e M n fun e M n => R73_5 a e M n fun e M n => R73_6 a e M n fun e M n => k .n e M n) c) a e M n fun ex e M n => Ex.rec (j0 e M n) (k .r e M n) (fun id => Bool.rec (k (.x id) e M n) (j0 e M n) (Nat.beq id 0)) ex) fun e M n => k .n e M n) (k .r e M n) c) [] [q0, q1, q2]
def R74_0 : RegF := fun a e M n k => alV 34 [(.i (.ofNat 0)), (.i (.ofNat 0)), (.i (.ofNat 0)), (.i (.ofNat 0)), (.i (.ofNat 0)), (.i (.ofNat 0)), (.i (.ofNat 0)), (.str []), (.str [])] M n fun v0 M n => e.setK q2 v0 fun e => k e M n
def R74_1 : RegF := fun a e M n k => e.getK q0 fun v0 => e.getK q1 fun v1 => (fun M0 => VV.onAny v0 (v_nck v0 fun v2 => v_fa v2 3 fun v3 => ldV M v3 1 false fun _ v4 => VV.onAny v1 (v_ixS v4 v1 1 fun v5 => ldV M v5 1 false fun _ v6 => VV.onAny v0 (v_nck v0 fun v7 => v_fa v7 2 fun v8 => ldV M v8 1 false fun _ v9 => VV.onAny v1 (v_ixS v9 v1 21 fun v10 => v_fa v10 7 fun v11 => ldV M v11 1 false fun _ v12 => VV.onAny v6 (VV.onAny v12 (Bool.rec false (e.setK q4 v6 fun e => e.setK q3 v12 fun e => k e M n) (keptB M0 M [])))))))) M
def R74_2 : RegF := fun a e M n k => e.getK q3 fun v0 => e.getK q4 fun v1 => VV.onAny v0 (VV.onAny v1 (v_lenS v1 fun v2 => v_lt v0 v2 fun v3 => VV.onAny v3 (e.setK q5 v3 fun e => k e M n)))
def R74_3 : RegF := fun a e M n k => e.getK q0 fun v0 => e.getK q1 fun v1 => VV.onAny v0 (VV.onAny v1 (callV a s128 [v0, v1] M n fun v2 M n => VV.onAny v2 (e.setK q6 v2 fun e => k e M n)))
def R74_4 : RegF := fun a e M n k => e.getK q2 fun v0 => v_bld [(.i (.ofNat 0)), (.i (.ofNat 0)), (.i (.ofNat 0)), (.str []), (.str [])] [(0, 1, (.i (.ofNat 15)))] fun v1 => v_bld [(.i (.ofNat 0)), (.i (.ofNat 0)), (.i (.ofNat 0)), (.i (.ofNat 0)), (.i (.ofNat 0)), (.i (.ofNat 0)), (.i (.ofNat 0)), (.str []), (.str [])] [(0, 1, (.i (.ofNat 10))), (4, 5, v1)] fun v2 => stV M v0 v2 9 fun M => k e M n
def R74_5 : RegF := fun a e M n k => e.getK q2 fun v0 => v_bld [(.i (.ofNat 0)), (.i (.ofNat 0)), (.i (.ofNat 0)), (.i (.ofNat 0)), (.i (.ofNat 0)), (.i (.ofNat 0)), (.i (.ofNat 0)), (.str []), (.str [])] [(0, 1, (.i (.ofNat 4)))] fun v1 => stV M v0 v1 9 fun M => k e M n
def R74_6 : RegF := fun a e M n k => e.getK q4 fun v0 => e.getK q3 fun v1 => e.getK q2 fun v2 => VV.onAny v0 (VV.onAny v1 (v_ixS v0 v1 9 fun v3 => ldV M v3 9 true fun _ v4 => stV M v2 v4 9 fun M => k e M n))
def S74 : List (P × I) := [(s0, q0), (s1, q1), (s4, q2), (s6, q3), (s5, q4), (s22, q5), (s31, q6)]
def G74 : F2 := .mk (fun a e M n k => R74_0 a e M n fun e M n => R74_1 a e M n fun e M n => R74_2 a e M n fun e M n => e.getK q5 fun v => v.onB fun c => Bool.rec (R74_3 a e M n fun e M n => e.getK q6 fun v => v.onB fun c => Bool.rec (R74_4 a e M n fun e M n => k .r e M n) (R74_5 a e M n fun e M n => k .r e M n) c) (R74_6 a e M n fun e M n => k .r e M n) c) [.c q2 9 true] [q0, q1]
def R75_0 : RegF := fun a e M n k => e.getK q0 fun v0 => e.getK q1 fun v1 => VV.onAny v0 (v_nck v0 fun v2 => v_fa v2 2 fun v3 => ldV M v3 1 false fun _ v4 => VV.onAny v1 (v_ixS v4 v1 21 fun v5 => v_fa v5 19 fun v6 => ldV M v6 1 false fun _ v7 => v_le (.i (.ofNat 0)) v7 fun v8 => e.setK q4 v8 fun e => k e M n))
def R75_1 : RegF := fun a e M n k => e.getK q0 fun v0 => e.getK q1 fun v1 => VV.onAny v0 (VV.onAny v1 (callV a s74 [v0, v1] M n fun v2 M n => alV 34 [(.i (.ofNat 0)), (.i (.ofNat 0)), (.i (.ofNat 0)), (.i (.ofNat 0)), (.i (.ofNat 0)), (.i (.ofNat 0)), (.i (.ofNat 0)), (.str []), (.str [])] M n fun v3 M n => stV M v3 v2 9 fun M => e.setK q3 v3 fun e => k e M n))
def R75_2 : RegF := fun a e M n k => VV.onAny (.nilf) (e.setK q15 (.nilf) fun e => k e M n)
def R75_3 : RegF := fun a e M n k => e.getK q15 fun v0 => e.getK q1 fun v1 => e.getK q3 fun v2 => VV.onAny v0 (VV.onAny v1 (ldV M v2 9 true fun _ v3 => cvV a v0 [v1, v3] M n fun v4 M n => k e M n))
def R75_4 : RegF := fun a e M n k => e.getK q3 fun v0 => v_fa v0 0 fun v1 => ldV M v1 1 false fun _ v2 => e.setK q2 v2 fun e => k e M n
def R75_5 : RegF := fun a e M n k => e.getK q2 fun v0 => v_eq v0 (.i (.ofNat 6)) fun v1 => VV.onAny v1 (e.setK q5 v1 fun e => k e M n)
def R75_6 : RegF := fun a e M n k => e.getK q2 fun v0 => v_eq v0 (.i (.ofNat 1)) fun v1 => VV.onAny v1 (e.setK q6 v1 fun e => k e M n)
def R75_7 : RegF := fun a e M n k => e.getK q2 fun v0 => v_eq v0 (.i (.ofNat 5)) fun v1 => VV.onAny v1 (e.setK q7 v1 fun e => k e M n)
def R75_8 : RegF := fun a e M n k => e.getK q2 fun v0 => v_eq v0 (.i (.ofNat 4)) fun v1 => VV.onAny v1 (e.setK q8 v1 fun e => k e M n)
def R75_9 : RegF := fun a e M n k => e.getK q2 fun v0 => v_eq v0 (.i (.ofNat 2)) fun v1 => VV.onAny v1 (e.setK q9 v1 fun e => k e M n)
def R75_10 : RegF := fun a e M n k => e.getK q2 fun v0 => v_eq v0 (.i (.ofNat 3)) fun v1 => VV.onAny v1 (e.setK q10 v1 fun e => k e M n)
def R75_11 : RegF := fun a e M n k => e.getK q2 fun v0 => v_eq v0 (.i (.ofNat 7)) fun v1 => VV.onAny v1 (e.setK q11 v1 fun e => k e M n)
def R75_12 : RegF := fun a e M n k => e.getK q2 fun v0 => v_eq v0 (.i (.ofNat 8)) fun v1 => VV.onAny v1 (e.setK q12 v1 fun e => k e M n)
def R75_13 : RegF := fun a e M n k => e.getK q2 fun v0 => v_eq v0 (.i (.ofNat 9)) fun v1 => VV.onAny v1 (e.setK q13 v1 fun e => k e M n)
def R75_14 : RegF := fun a e M n k => e.getK q2 fun v0 => v_eq v0 (.i (.ofNat 10)) fun v1 => VV.onAny v1 (e.setK q14 v1 fun e => k e M n)
def R75_15 : RegF := fun a e M n k => e.getK q0 fun v0 => VV.onAny v0 (v_mkf s140 [v0] [] fun v1 => VV.onAny v1 (e.setK q15 v1 fun e => k e M n))
def R75_16 : RegF := fun a e M n k => e.getK q0 fun v0 => VV.onAny v0 (v_mkf s139 [v0] [] fun v1 => VV.onAny v1 (e.setK q15 v1 fun e => k e M n))
def R75_17 : RegF := fun a e M n k => e.getK q0 fun v0 => VV.onAny v0 (v_mkf s138 [v0] [] fun v1 => VV.onAny v1 (e.setK q15 v1 fun e => k e M n))
def R75_18 : RegF := fun a e M n k => e.getK q0 fun v0 => VV.onAny v0 (v_mkf s137 [v0] [] fun v1 => VV.onAny v1 (e.setK q15 v1 fun e => k e M n))
def R75_19 : RegF := fun a e M n k => e.getK q0 fun v0 => VV.onAny v0 (v_mkf s136 [v0] [] fun v1 => VV.onAny v1 (e.setK q15 v1 fun e => k e M n))
def R75_20 : RegF := fun a e M n k => e.getK q0 fun v0 => VV.onAny v0 (v_mkf s135 [v0] [] fun v1 => VV.onAny v1 (e.setK q15 v1 fun e => k e M n))
def R75_21 : RegF := fun a e M n k => e.getK q0 fun v0 => VV.onAny v0 (v_mkf s134 [v0] [] fun v1 => VV.onAny v1 (e.setK q15 v1 fun e => k e M n))
def R75_22 : RegF := fun a e M n k => e.getK q0 fun v0 => VV.onAny v0 (v_mkf s133 [v0] [] fun v1 => VV.onAny v1 (e.setK q15 v1 fun e => k e M n))
def R75_23 : RegF := fun a e M n k => e.getK q0 fun v0 => VV.onAny v0 (v_mkf s132 [v0] [] fun v1 => VV.onAny v1 (e.setK q15 v1 fun e => k e M n))
def R75_24 : RegF := fun a e M n k => e.getK q0 fun v0 => VV.onAny v0 (v_mkf s131 [v0] [] fun v1 => VV.onAny v1 (e.setK q15 v1 fun e => k e M n))
def R75_25 : RegF := fun a e M n k => e.getK q0 fun v0 => VV.onAny v0 (v_mkf s130 [v0] [] fun v1 => VV.onAny v1 (e.setK q15 v1 fun e => k e M n))
def R75_26 : RegF := fun a e M n k => e.getK q0 fun v0 => e.getK q1 fun v1 => VV.onAny v0 (VV.onAny v1 (callV a s129 [v0, v1] M n fun v2 M n => k e M n))
def S75 : List (P × I) := [(s0, q0), (s1, q1), (s22, q2), (s4, q3), (s14, q4), (s25, q5), (s29, q6), (s33, q7), (s37, q8), (s41, q9), (s45, q10), (s49, q11), (s53, q12), (s57, q13), (s61, q14), (s5, q15)]
def G75 : F2 := .mk (fun a e M n k => R75_0 a e M n fun e M n => e.getK q4 fun v => v.onB fun c => Bool.rec (R75_1 a e M n fun e M n => R75_2 a e M n fun e M n => (fun (j0 : En → Mem → P → Bool) => R75_4 a e M n fun e M n => (fun (j1 : En → Mem → P → Bool) => R75_5 a e M n fun e M n => (fun (j2 : En → Mem → P → Bool) => e.getK q5 fun v => v.onB fun c => Bool.rec (R75_6 a e M n fun e M n => (fun (j3 : En → Mem → P → Bool) => e.getK q6 fun v => v.onB fun c => Bool.rec (R75_7 a e M n fun e M n => (fun (j4 : En → Mem → P → Bool) => e.getK q7 fun v => v.onB fun c => Bool.rec (R75_8 a e M n fun e M n => (fun (j5 : En → Mem → P → Bool) => e.getK q8 fun v => v.onB fun c => Bool.rec (R75_9 a e M n fun e M n => (fun (j6 : En → Mem → P → Bool) => e.getK q9 fun v => v.onB fun c => Bool.rec (R75_10 a e M n fun e M n => (fun (j7 : En → Mem → P → Bool) => e.getK q10 fun v => v.onB fun c => Bool.rec (R75_11 a e M n fun e M n => (fun (j8 : En → Mem → P → Bool) => e.getK q11 fun v => v.onB fun c => Bool.rec (R75_12 a e M n fun e M n => (fun (j9 : En → Mem → P → Bool) => e.getK q12 fun v => v.onB fun c => Bool.rec (R75_13 a e M n fun e M n => (fun (j10 : En → Mem → P → Bool) => e.getK q13 fun v => v.onB fun c => Bool.rec (R75_14 a e M n fun e M n => (fun (j11 : En → Mem → P → Bool) => e.getK q14 fun v => v.onB fun c => Bool.rec (R75_15 a e M n fun e M n => j11 e M n) (R75_16 a e M n fun e M n => j11 e M n) c) fun e M n => j10 e M n) (R75_17 a e M n fun e M n => j10 e M n) c) fun e M n => j9 e M n) (R75_18 a e M n fun e M n => j9 e M n) c) fun e M n => j8 e M n) (R75_19 a e M n fun e M n => j8 e M n) c) fun e M n => j7 e M n) (R75_20 a e M n fun e M n => j7 e M n) c) fun e M n => j6 e M n) (R75_21 a e M n fun e M n => j6 e M n) c) fun e M n => j5 e M n) (R75_22 a e M n fun e M n => j5 e M n) c) fun e M n => j4 e M n) (R75_23 a e M n fun e M n => j4 e M n) c) fun e M n => j3 e M n) (R75_24 a e M n fun e M n => j3 e M n) c) fun e M n => j2 e M n) (R75_25 a e M n fun e M n => j2 e M n) c) fun e M n => j1 e M n) fun e M n => j0 e M n) fun e M n => R75_3 a e M n fun e M n => k .n e M n) (R75_26 a e M n fun e M n => k .r e M n) c) [] [q0, q1]
def R76_0 : RegF := fun a e M n k => e.getK q0 fun v0 => bxV 64 v0 M n fun v1 M n => e.setK q2 v1 fun e => k e M n
def R76_1 : RegF := fun a e M n k => e.getK q2 fun v0 => e.getK q1 fun v1 => ldV M v0 1 false fun _ v2 => v_nck v2 fun v3 => v_fa v3 2 fun v4 => ldV M v4 1 false fun _ v5 => VV.onAny v1 (v_ixS v5 v1 21 fun v6 => ldV M v6 21 true fun _ v7 => alV 109 (rep 9 (.i (.ofNat 0)) ++ [(.bool false), (.i (.ofNat 0)), (.i (.ofNat 0)), (.i (.ofNat 0)), (.str []), (.bool false), (.i (.ofNat 0)), (.i (.ofNat 0)), (.i (.ofNat 0)), (.i (.ofNat 0)), (.i (.ofNat 0)), .nils]) M n fun v8 M n => stV M v8 v7 21 fun M => e.setK q3 v8 fun e => k e M n)
def R76_2 : RegF := fun a e M n k => e.getK q3 fun v0 => e.getK q2 fun v1 => e.getK q1 fun v2 => (fun M0 => v_fa v0 14 fun v3 => ldV M v3 1 false fun _ v4 => VV.onAny v4 (gdK v4 true .off M n (fun j => v_fa v0 17 fun v => j v M n) fun v5 M n => gdK v4 true .off M n (fun j => ldV M v5 1 false fun _ v => j v M n) fun v6 M n => gdK v4 true .off M n (fun j => ldV M v1 1 false fun _ v => j v M n) fun v7 M n => gdK v4 true .off M n (fun j => v_nck v7 fun v => j v M n) fun v8 M n => gdK v4 true .off M n (fun j => v_fa v8 0 fun v => j v M n) fun v9 M n => gdK v4 true .off M n (fun j => ldV M v9 1 false fun _ v => j v M n) fun v10 M n => gdK v4 true .off M n (fun j => v_mv v2 fun v => j v M n) fun v11 M n => gdK v4 true .off M n (fun j => v_ixS v10 v11 8 fun v => j v M n) fun v12 M n => gdK v4 true .off M n (fun j => v_fa v12 4 fun v => j v M n) fun v13 M n => gdK v4 true .off M n (fun j => ldV M v13 1 false fun _ v => j v M n) fun v14 M n => gdK v4 true .off M n (fun j => v_le v14 v6 fun v => j v M n) fun v15 M n => v_pick v4 v15 (.bool false) fun v16 => VV.onAny v16 (gdK v16 false .off M n (fun j => ldV M v1 1 false fun _ v => j v M n) fun v17 M n => gdK v16 false .off M n (fun j => v_nck v17 fun v => j v M n) fun v18 M n => gdK v16 false .off M n (fun j => v_fa v18 5 fun v => j v M n) fun v19 M n => gdK v16 false .off M n (fun j => ldV M v19 1 false fun _ v => j v M n) fun v20 M n => gdK v16 false .off M n (fun j => v_mv v2 fun v => j v M n) fun v21 M n => gdK v16 false .no M n (fun j => callV a s120 [v20, v21] M n fun v M n => j v M n) fun v22 M n => gdK v16 false .off M n (fun j => v_mkf s142 [] [v1] fun v => j v M n) fun v23 M n => gdK v16 false .no M n (fun j => callV a s141 [v22, v23] M n fun v M n => j v M n) fun v24 M n => v_pick v16 (.bool true) v24 fun v25 => VV.onAny v25 (Bool.rec false (e.setK q4 v25 fun e => k e M n) (keptB M0 M []))))) M
def R76_3 : RegF := fun a e M n k => e.getK q4 fun v0 => e.getK q3 fun v1 => VV.onAny v0 (VV.onAny v0 (gdK v0 true .off M n (fun j => v_fa v1 9 fun v => j v M n) fun v2 M n => gdK v0 true .off M n (fun j => ldV M v2 1 false fun _ v => j v M n) fun v3 M n => gdK v0 true .off M n (fun j => v_not v3 fun v => j v M n) fun v4 M n => v_pick v0 v4 (.bool false) fun v5 => e.setK q5 v5 fun e => k e M n))
def R76_4 : RegF := fun a e M n k => e.getK q2 fun v0 => e.getK q1 fun v1 => (fun M0 => ldV M v0 1 false fun _ v2 => VV.onAny v1 (ldV M v0 1 false fun _ v3 => v_nck v3 fun v4 => v_fa v4 1 fun v5 => ldV M v5 1 false fun _ v6 => v_add v6 (.i (.ofNat 1)) fun v7 => callV a s126 [v2, v1, v7] M n fun v8 M n => Bool.rec false (k e M n) (keptB M0 M []))) M
def S76 : List (P × I) := [(s0, q0), (s1, q1), (s2, q2), (s4, q3), (s5, q4), (s43, q5)]
def G76 : F2 := .mk (fun a e M n k => R76_0 a e M n fun e M n => R76_1 a e M n fun e M n => R76_2 a e M n fun e M n => R76_3 a e M n fun e M n => (fun (j0 : En → Mem → P → Bool) => e.getK q5 fun v => v.onB fun c => Bool.rec (j0 e M n) (R76_4 a e M n fun e M n => j0 e M n) c) fun e M n => k .n e M n) [] [q0, q1]
def R77_0 : RegF := fun a e M n k => VV.onAny (.i (.ofNat 0)) (e.setK q1 (.i (.ofNat 0)) fun e => k e M n)
def R77_1 : RegF := fun a e M n k => e.getK q0 fun v0 => VV.onAny v0 (v_max v0 (.i (.ofNat 0)) fun v1 => v_min v1 (.i (.ofNat 1099511627776)) fun v2 => VV.onAny v2 (e.setK q1 v2 fun e => k e M n))
def S77 : List (P × I) := [(s0, q0), (s2, q1)]
def G77 : F2 := .mk (fun a e M n k => R77_0 a e M n fun e M n => R77_1 a e M n fun e M n => k .r e M n) [.t q1] [q0]
def R78_0 : RegF := fun a e M n k => VV.onAny (.nils) (e.setK q2 (.nils) fun e => k e M n)
def R78_1 : RegF := fun a e M n k => e.getK q0 fun v0 => VV.onAny v0 (v_nqS false v0 fun v1 => e.setK q1 v1 fun e => k e M n)
def R78_2 : RegF := fun a e M n k => e.getK q0 fun v0 => bslV 73 3 0 [] [] M n fun v1 M n => VV.onAny v0 (appV 73 3 24 v1 v0 M n fun v2 M n => VV.onAny v2 (e.setK q2 v2 fun e => k e M n))
def R78_3 : RegF := fun a e M n k => VV.onAny (.nils) (e.setK q2 (.nils) fun e => k e M n)
def S78 : List (P × I) := [(s0, q0), (s4, q1), (s2, q2)]
def G78 : F2 := .mk (fun a e M n k => R78_0 a e M n fun e M n => R78_1 a e M n fun e M n => e.getK q1 fun v => v.onB fun c => Bool.rec (R78_2 a e M n fun e M n => k .r e M n) (R78_3 a e M n fun e M n => k .r e M n) c) [.t q2] [q0]
def R79_0 : RegF := fun a e M n k => VV.onAny (.nils) (e.setK q6 (.nils) fun e => k e M n)
def R79_1 : RegF := fun a e M n k => e.getK q0 fun v0 => e.getK q1 fun v1 => e.getK q2 fun v2 => e.getK q3 fun v3 => VV.onAny v0 (VV.onAny v1 (VV.onAny v2 (VV.onAny v3 (callV a s144 [v0, v1, v2, v3] M n fun v4 M n => VV.onAny v4 (e.setK q5 v4 fun e => k e M n)))))
def R79_2 : RegF := fun a e M n k => e.getK q5 fun v0 => e.getK q6 fun v1 => VV.onAny v0 (v_le (.i (.ofNat 0)) v0 fun v2 => VV.onAny v2 (gdK v2 true .off M n (fun j => v_mv v1 fun v => j v M n) fun v3 M n => gdK v2 true .off M n (fun j => v_mv v0 fun v => j v M n) fun v4 M n => gdK v2 true .no M n (fun j => callV a s89 [v3, v4] M n fun v M n => j v M n) fun v5 M n => gdK v2 true .off M n (fun j => v_not v5 fun v => j v M n) fun v6 M n => v_pick v2 v6 (.bool false) fun v7 => e.setK q7 v7 fun e => k e M n))
def R79_3 : RegF := fun a e M n k => e.getK q6 fun v0 => e.getK q5 fun v1 => VV.onAny v0 (VV.onAny v1 (bslV 3 1 1 [(.i (.ofNat 0))] [(0, 1, v1)] M n fun v2 M n => appV 3 1 8 v0 v2 M n fun v3 M n => VV.onAny v3 (e.setK q6 v3 fun e => k e M n)))
def R79_4 : RegF := fun a e M n k => e.getK q4 fun v0 => e.getK q5 fun v1 => VV.onAny v0 (VV.onAny v1 (cvV a v0 [v1] M n fun v2 M n => k e M n))
def R79_5 : RegF := fun a e M n k => e.getK q0 fun v0 => e.getK q1 fun v1 => e.getK q2 fun v2 => e.getK q5 fun v3 => VV.onAny v0 (VV.onAny v1 (VV.onAny v2 (VV.onAny v3 (callV a s144 [v0, v1, v2, v3] M n fun v4 M n => VV.onAny v4 (e.setK q5 v4 fun e => k e M n)))))
def S79 : List (P × I) := [(s0, q0), (s1, q1), (s2, q2), (s3, q3), (s4, q4), (s11, q5), (s10, q6), (s24, q7)]
def G79 : F2 := .mk (fun a e M n k => R79_0 a e M n fun e M n => R79_1 a e M n fun e M n => (fun (j0 : En → Mem → P → Bool) => loopK (fun a e M n k => R79_2 a e M n fun e M n => e.getK q7 fun v => v.onB fun c => Bool.rec (k (.x 0) e M n) (R79_3 a e M n fun e M n => R79_4 a e M n fun e M n => R79_5 a e M n fun e M n => k .n e M n) c) a e M n fun ex e M n => Ex.rec (j0 e M n) (k .r e M n) (fun id => Bool.rec (k (.x id) e M n) (j0 e M n) (Nat.beq id 0)) ex) fun e M n => k .n e M n) [] [q0, q1, q2, q3, q4]
def R80_0 : RegF := fun a e M n k => e.getK q1 fun v0 => e.getK q0 fun v1 => e.getK q2 fun v2 => (fun M0 => ldV M v0 1 false fun bv3 v3 => VV.onAny v1 (ldV M v0 1 false fun _ v4 => VV.onAny v1 (v_ixS v4 v1 3 fun v5 => ldV M v5 3 true fun _ v6 => ldV M v2 3 true fun _ v7 => bslV 73 3 1 [(.i (.ofNat 0)), (.i (.ofNat 0)), (.i (.ofNat 0))] [(0, 3, v7)] M n fun v8 M n => callV a s81 [v6, v8] M n fun v9 M n => v_ixS v3 v1 3 fun v10 => Bool.rec false (stV M v10 v9 3 fun M => k e M n) (keptB M0 M (bv3 :: []))))) M
def S80 : List (P × I) := [(s0, q0), (s1, q1), (s2, q2)]
def G80 : F2 := .mk (fun a e M n k => R80_0 a e M n fun e M n => k .n e M n) [] [q0, q1, q2]
def R81_0 : RegF := fun a e M n k => e.getK q0 fun v0 => bxV 73 v0 M n fun v1 M n => alV 73 [(.i (.ofNat 0)), (.i (.ofNat 0)), (.i (.ofNat 0))] M n fun v2 M n => e.setK q3 v1 fun e => e.setK q2 v2 fun e => k e M n
def R81_1 : RegF := fun a e M n k => e.getK q3 fun v0 => e.getK q1 fun v1 => e.getK q2 fun v2 => ldV M v0 3 true fun _ v3 => VV.onAny v1 (callV a s145 [(.fn s146 [] []), v3, v1] M n fun v4 M n => stV M v2 v4 3 fun M => k e M n)
def S81 : List (P × I) := [(s0, q0), (s1, q1), (s4, q2), (s2, q3)]
def G81 : F2 := .mk (fun a e M n k => R81_0 a e M n fun e M n => R81_1 a e M n fun e M n => k .r e M n) [.c q2 3 true] [q0, q1]
def G82 : F2 := .spec (ownerS)
def R83_0 : RegF := fun a e M n k => VV.onAny (.i (.ofNat 0)) (e.setK q2 (.i (.ofNat 0)) fun e => k e M n)
def R83_1 : RegF := fun a e M n k => e.getK q0 fun v0 => VV.onAny v0 (v_nqP false v0 fun v1 => e.setK q1 v1 fun e => k e M n)
def R83_2 : RegF := fun a e M n k => e.getK q0 fun v0 => VV.onAny v0 (v_nck v0 fun v1 => v_fa v1 0 fun v2 => ldV M v2 1 false fun _ v3 => v_lenS v3 fun v4 => VV.onAny v4 (e.setK q2 v4 fun e => k e M n))
def R83_3 : RegF := fun a e M n k => VV.onAny (.i (.ofNat 0)) (e.setK q2 (.i (.ofNat 0)) fun e => k e M n)
def S83 : List (P × I) := [(s0, q0), (s4, q1), (s2, q2)]
def G83 : F2 := .mk (fun a e M n k => R83_0 a e M n fun e M n => R83_1 a e M n fun e M n => e.getK q1 fun v => v.onB fun c => Bool.rec (R83_2 a e M n fun e M n => k .r e M n) (R83_3 a e M n fun e M n => k .r e M n) c) [.t q2] [q0]
def R84_0 : RegF := fun a e M n k => VV.onAny (.i (.ofNat 0)) (e.setK q2 (.i (.ofNat 0)) fun e => k e M n)
def R84_1 : RegF := fun a e M n k => e.getK q0 fun v0 => VV.onAny v0 (v_nqP false v0 fun v1 => e.setK q1 v1 fun e => k e M n)
def R84_2 : RegF := fun a e M n k => e.getK q0 fun v0 => VV.onAny v0 (v_nck v0 fun v1 => v_fa v1 1 fun v2 => ldV M v2 1 false fun _ v3 => VV.onAny v3 (e.setK q2 v3 fun e => k e M n))
def R84_3 : RegF := fun a e M n k => VV.onAny (.i (.ofNat 0)) (e.setK q2 (.i (.ofNat 0)) fun e => k e M n)
def S84 : List (P × I) := [(s0, q0), (s4, q1), (s2, q2)]
def G84 : F2 := .mk (fun a e M n k => R84_0 a e M n fun e M n => R84_1 a e M n fun e M n => e.getK q1 fun v => v.onB fun c => Bool.rec (R84_2 a e M n fun e M n => k .r e M n) (R84_3 a e M n fun e M n => k .r e M n) c) [.t q2] [q0]
def R85_0 : RegF := fun a e M n k => VV.onAny (.nils) (e.setK q9 (.nils) fun e => k e M n)
def R85_1 : RegF := fun a e M n k => VV.onAny (.nils) (e.setK q4 (.nils) fun e => k e M n)
def R85_2 : RegF := fun a e M n k => e.getK q4 fun v0 => VV.onAny v0 (VV.onAny v0 (e.setK q9 v0 fun e => k e M n))
def R85_3 : RegF := fun a e M n k => e.getK q0 fun v0 => VV.onAny v0 (v_lenS v0 fun v1 => VV.onAny (.i (.ofNat 0)) (e.setK q7 v0 fun e => e.setK q5 v1 fun e => e.setK q2 (.i (.ofNat 0)) fun e => k e M n))
def R85_4 : RegF := fun a e M n k => e.getK q2 fun v0 => e.getK q5 fun v1 => v_lt v0 v1 fun v2 => e.setK q6 v2 fun e => k e M n
def R85_5 : RegF := fun a e M n k => e.getK q2 fun v0 => v_add v0 (.i (.ofNat 1)) fun v1 => VV.onAny v1 (e.setK q2 v1 fun e => k e M n)
def R85_6 : RegF := fun a e M n k => e.getK q7 fun v0 => e.getK q2 fun v1 => v_ixS v0 v1 3 fun v2 => ldV M v2 3 true fun _ v3 => alV 48 [(.i (.ofNat 0)), (.i (.ofNat 0)), (.i (.ofNat 0))] M n fun v4 M n => stV M v4 v3 3 fun M => e.setK q3 v4 fun e => k e M n
def R85_7 : RegF := fun a e M n k => e.getK q1 fun v0 => e.getK q3 fun v1 => VV.onAny v0 (ldV M v1 3 true fun _ v2 => cvV a v0 [v2] M n fun v3 M n => e.setK q8 v3 fun e => k e M n)
def R85_8 : RegF := fun a e M n k => e.getK q4 fun v0 => e.getK q3 fun v1 => VV.onAny v0 (ldV M v1 3 true fun _ v2 => bslV 48 3 1 [(.i (.ofNat 0)), (.i (.ofNat 0)), (.i (.ofNat 0))] [(0, 3, v2)] M n fun v3 M n => appV 48 3 24 v0 v3 M n fun v4 M n => VV.onAny v4 (e.setK q4 v4 fun e => k e M n))
def S85 : List (P × I) := [(s0, q0), (s1, q1), (s10, q2), (s7, q3), (s5, q4), (s9, q5), (s11, q6), (s8, q7), (s16, q8), (s4, q9)]
def G85 : F2 := .mk (fun a e M n k => R85_0 a e M n fun e M n => R85_1 a e M n fun e M n => (fun (j0 : En → Mem → P → Bool) => R85_3 a e M n fun e M n => (fun (j1 : En → Mem → P → Bool) => loopK (fun a e M n k => R85_4 a e M n fun e M n => e.getK q6 fun v => v.onB fun c => Bool.rec (k (.x 0) e M n) ((fun (j2 : En → Mem → P → Bool) => (fun (j3 : En → Mem → P → Bool) => R85_6 a e M n fun e M n => R85_7 a e M n fun e M n => (fun (j4 : En → Mem → P → Bool) => e.getK q8 fun v => v.onB fun c => Bool.rec (j4 e M n) (R85_8 a e M n fun e M n => j4 e M n) c) fun e M n => j3 e M n) fun e M n => j2 e M n) fun e M n => R85_5 a e M n fun e M n => k .n e M n) c) a e M n fun ex e M n => Ex.rec (j1 e M n) (k .r e M n) (fun id => Bool.rec (k (.x id) e M n) (j1 e M n) (Nat.beq id 0)) ex) fun e M n => j0 e M n) fun e M n => R85_2 a e M n fun e M n => k .r e M n) [.t q9] [q0, q1]
def R86_0 : RegF := fun a e M n k => e.getK q0 fun v0 => bxV 48 v0 M n fun v1 M n => VV.onAny (.bool false) (e.setK q2 v1 fun e => e.setK q3 (.bool false) fun e => k e M n)
def R86_1 : RegF := fun a e M n k => e.getK q2 fun v0 => e.getK q1 fun v1 => v_fa v0 0 fun v2 => ldV M v2 1 false fun _ v3 => ldV M v1 1 false fun _ v4 => v_eq v3 v4 fun v5 => VV.onAny v5 (e.setK q3 v5 fun e => k e M n)
def S86 : List (P × I) := [(s0, q0), (s1, q1), (s2, q2), (s3, q3)]
def G86 : F2 := .mk (fun a e M n k => R86_0 a e M n fun e M n => R86_1 a e M n fun e M n => k .r e M n) [.t q3] [q0, q1]
def R87_0 : RegF := fun a e M n k => VV.onAny (.nils) (e.setK q2 (.nils) fun e => k e M n)
def R87_1 : RegF := fun a e M n k => e.getK q0 fun v0 => VV.onAny v0 (v_nqS false v0 fun v1 => e.setK q1 v1 fun e => k e M n)
def R87_2 : RegF := fun a e M n k => e.getK q0 fun v0 => bslV 52 6 0 [] [] M n fun v1 M n => VV.onAny v0 (appV 52 6 48 v1 v0 M n fun v2 M n => VV.onAny v2 (e.setK q2 v2 fun e => k e M n))
def R87_3 : RegF := fun a e M n k => VV.onAny (.nils) (e.setK q2 (.nils) fun e => k e M n)
def S87 : List (P × I) := [(s0, q0), (s4, q1), (s2, q2)]
def G87 : F2 := .mk (fun a e M n k => R87_0 a e M n fun e M n => R87_1 a e M n fun e M n => e.getK q1 fun v => v.onB fun c => Bool.rec (R87_2 a e M n fun e M n => k .r e M n) (R87_3 a e M n fun e M n => k .r e M n) c) [.t q2] [q0]
def R88_0 : RegF := fun a e M n k => VV.onAny (.nils) (e.setK q2 (.nils) fun e => k e M n)
def R88_1 : RegF := fun a e M n k => e.getK q0 fun v0 => VV.onAny v0 (v_nqS false v0 fun v1 => e.setK q1 v1 fun e => k e M n)
def R88_2 : RegF := fun a e M n k => e.getK q0 fun v0 => bslV 62 11 0 [] [] M n fun v1 M n => VV.onAny v0 (appV 62 11 112 v1 v0 M n fun v2 M n => VV.onAny v2 (e.setK q2 v2 fun e => k e M n))
def R88_3 : RegF := fun a e M n k => VV.onAny (.nils) (e.setK q2 (.nils) fun e => k e M n)
def S88 : List (P × I) := [(s0, q0), (s4, q1), (s2, q2)]
def G88 : F2 := .mk (fun a e M n k => R88_0 a e M n fun e M n => R88_1 a e M n fun e M n => e.getK q1 fun v => v.onB fun c => Bool.rec (R88_2 a e M n fun e M n => k .r e M n) (R88_3 a e M n fun e M n => k .r e M n) c) [.t q2] [q0]
def R89_0 : RegF := fun a e M n k => VV.onAny (.bool false) (e.setK q2 (.bool false) fun e => k e M n)
def R89_1 : RegF := fun a e M n k => e.getK q0 fun v0 => e.getK q1 fun v1 => VV.onAny v0 (VV.onAny v1 (callV a s148 [v0, v1] M n fun v2 M n => v_le (.i (.ofNat 0)) v2 fun v3 => VV.onAny v3 (e.setK q2 v3 fun e => k e M n)))
def S89 : List (P × I) := [(s0, q0), (s1, q1), (s4, q2)]
def G89 : F2 := .mk (fun a e M n k => R89_0 a e M n fun e M n => R89_1 a e M n fun e M n => k .r e M n) [.t q2] [q0, q1]
def R91_0 : RegF := fun a e M n k => VV.onAny (.bool false) (e.setK q3 (.bool false) fun e => k e M n)
def R91_1 : RegF := fun a e M n k => e.getK q0 fun v0 => e.getK q1 fun v1 => e.getK q2 fun v2 => VV.onAny v0 (VV.onAny v1 (v_le v1 v0 fun v3 => VV.onAny v3 (gdK v3 true .off M n (fun j => v_mv v0 fun v => j v M n) fun v4 M n => gdK v3 true .off M n (fun j => v_mv v2 fun v => j v M n) fun v5 M n => gdK v3 true .off M n (fun j => v_le v4 v5 fun v => j v M n) fun v6 M n => v_pick v3 v6 (.bool false) fun v7 => VV.onAny v7 (e.setK q3 v7 fun e => k e M n))))
def S91 : List (P × I) := [(s0, q0), (s1, q1), (s2, q2), (s6, q3)]
def G91 : F2 := .mk (fun a e M n k => R91_0 a e M n fun e M n => R91_1 a e M n fun e M n => k .r e M n) [.t q3] [q0, q1, q2]
def R92_0 : RegF := fun a e M n k => e.getK q0 fun v0 => e.getK q1 fun v1 => bxV 30 v0 M n fun v2 M n => bxV 37 v1 M n fun v3 M n => VV.onAny (.bool false) (e.setK q3 v2 fun e => e.setK q2 v3 fun e => e.setK q7 (.bool false) fun e => k e M n)
def R92_1 : RegF := fun a e M n k => e.getK q2 fun v0 => v_fa v0 0 fun v1 => ldV M v1 1 false fun _ v2 => v_eq v2 (.i (.ofNat 2)) fun v3 => VV.onAny v3 (gdK v3 true .off M n (fun j => v_fa v0 1 fun v => j v M n) fun v4 M n => gdK v3 true .off M n (fun j => ldV M v4 1 false fun _ v => j v M n) fun v5 M n => gdK v3 true .no M n (fun j => callV a s91 [v5, (.i (.ofNat 0)), (.i (.ofNat 63))] M n fun v M n => j v M n) fun v6 M n => v_pick v3 v6 (.bool false) fun v7 => VV.onAny v7 (gdK v7 false .off M n (fun j => v_fa v0 0 fun v => j v M n) fun v8 M n => gdK v7 false .off M n (fun j => ldV M v8 1 false fun _ v => j v M n) fun v9 M n => gdK v7 false .off M n (fun j => v_eq v9 (.i (.ofNat 1)) fun v => j v M n) fun v10 M n => gdK v7 false .off M n (fun j => v_mv v10 fun v => j v M n) fun v11 M n => gdK v11 true .off M n (fun j => v_fa v0 1 fun v => j v M n) fun v12 M n => gdK v11 true .off M n (fun j => ldV M v12 1 false fun _ v => j v M n) fun v13 M n => gdK v11 true .off M n (fun j => v_eq v13 (.i (.ofNat 0)) fun v => j v M n) fun v14 M n => gdK v7 false .off M n (fun j => v_pick v11 v14 (.bool false) fun v => j v M n) fun v15 M n => v_pick v7 (.bool true) v15 fun v16 => VV.onAny v16 (e.setK q4 v16 fun e => k e M n)))
def R92_2 : RegF := fun a e M n k => e.getK q2 fun v0 => v_fa v0 2 fun v1 => ldV M v1 1 false fun _ v2 => callV a s91 [v2, (.i (.ofNat 1)), (.i (.ofNat 1000000))] M n fun v3 M n => VV.onAny v3 (gdK v3 true .off M n (fun j => v_fa v0 3 fun v => j v M n) fun v4 M n => gdK v3 true .off M n (fun j => ldV M v4 1 false fun _ v => j v M n) fun v5 M n => gdK v3 true .off M n (fun j => v_fa v0 2 fun v => j v M n) fun v6 M n => gdK v3 true .off M n (fun j => ldV M v6 1 false fun _ v => j v M n) fun v7 M n => gdK v3 true .no M n (fun j => callV a s91 [v5, (.i (.ofNat 1)), v7] M n fun v M n => j v M n) fun v8 M n => v_pick v3 v8 (.bool false) fun v9 => VV.onAny v9 (gdK v9 true .off M n (fun j => v_fa v0 4 fun v => j v M n) fun v10 M n => gdK v9 true .off M n (fun j => ldV M v10 1 false fun _ v => j v M n) fun v11 M n => gdK v9 true .off M n (fun j => v_fa v0 3 fun v => j v M n) fun v12 M n => gdK v9 true .off M n (fun j => ldV M v12 1 false fun _ v => j v M n) fun v13 M n => gdK v9 true .no M n (fun j => callV a s91 [v11, (.i (.ofNat 1)), v13] M n fun v M n => j v M n) fun v14 M n => v_pick v9 v14 (.bool false) fun v15 => VV.onAny v15 (e.setK q5 v15 fun e => k e M n)))
def R92_3 : RegF := fun a e M n k => e.getK q2 fun v0 => e.getK q3 fun v1 => v_fa v0 6 fun v2 => ldV M v2 1 false fun _ v3 => v_lenS v3 fun v4 => v_le v4 (.i (.ofNat 6)) fun v5 => VV.onAny v5 (gdK v5 true .off M n (fun j => v_fa v0 6 fun v => j v M n) fun v6 M n => gdK v5 true .off M n (fun j => ldV M v6 1 false fun _ v => j v M n) fun v7 M n => gdK v5 true .off M n (fun j => v_mkf s150 [] [v1] fun v => j v M n) fun v8 M n => gdK v5 true .no M n (fun j => callV a s93 [v7, v8] M n fun v M n => j v M n) fun v9 M n => gdK v5 true .off M n (fun j => v_not v9 fun v => j v M n) fun v10 M n => v_pick v5 v10 (.bool false) fun v11 => VV.onAny v11 (e.setK q6 v11 fun e => k e M n))
def R92_4 : RegF := fun a e M n k => e.getK q4 fun v0 => e.getK q5 fun v1 => e.getK q6 fun v2 => e.getK q2 fun v3 => e.getK q3 fun v4 => VV.onAny v0 (VV.onAny v0 (gdK v0 true .off M n (fun j => v_mv v1 fun v => j v M n) fun v5 M n => v_pick v0 v5 (.bool false) fun v6 => VV.onAny v6 (gdK v6 true .off M n (fun j => v_mv v2 fun v => j v M n) fun v7 M n => v_pick v6 v7 (.bool false) fun v8 => VV.onAny v8 (gdK v8 true .off M n (fun j => v_fa v3 5 fun v => j v M n) fun v9 M n => gdK v8 true .off M n (fun j => ldV M v9 1 false fun _ v => j v M n) fun v10 M n => gdK v8 true .off M n (fun j => v_fa v4 3 fun v => j v M n) fun v11 M n => gdK v8 true .off M n (fun j => ldV M v11 1 false fun _ v => j v M n) fun v12 M n => gdK v8 true .off M n (fun j => v_lenS v12 fun v => j v M n) fun v13 M n => gdK v8 true .off M n (fun j => v_sub v13 (.i (.ofNat 1)) fun v => j v M n) fun v14 M n => gdK v8 true .no M n (fun j => callV a s91 [v10, (.i (.negSucc 0)), v14] M n fun v M n => j v M n) fun v15 M n => v_pick v8 v15 (.bool false) fun v16 => VV.onAny v16 (gdK v16 true .off M n (fun j => v_fa v3 7 fun v => j v M n) fun v17 M n => gdK v16 true .off M n (fun j => ldV M v17 1 false fun _ v => j v M n) fun v18 M n => gdK v16 true .off M n (fun j => v_lenS v18 fun v => j v M n) fun v19 M n => gdK v16 true .off M n (fun j => v_le v19 (.i (.ofNat 40)) fun v => j v M n) fun v20 M n => v_pick v16 v20 (.bool false) fun v21 => VV.onAny v21 (e.setK q7 v21 fun e => k e M n))))))
def S92 : List (P × I) := [(s0, q0), (s1, q1), (s3, q2), (s2, q3), (s5, q4), (s6, q5), (s7, q6), (s4, q7)]
def G92 : F2 := .mk (fun a e M n k => R92_0 a e M n fun e M n => R92_1 a e M n fun e M n => R92_2 a e M n fun e M n => R92_3 a e M n fun e M n => R92_4 a e M n fun e M n => k .r e M n) [.t q7] [q0, q1]
def R93_0 : RegF := fun a e M n k => VV.onAny (.bool false) (e.setK q2 (.bool false) fun e => k e M n)
def R93_1 : RegF := fun a e M n k => e.getK q0 fun v0 => e.getK q1 fun v1 => VV.onAny v0 (VV.onAny v1 (callV a s151 [v0, v1] M n fun v2 M n => v_le (.i (.ofNat 0)) v2 fun v3 => VV.onAny v3 (e.setK q2 v3 fun e => k e M n)))
def S93 : List (P × I) := [(s0, q0), (s1, q1), (s4, q2)]
def G93 : F2 := .mk (fun a e M n k => R93_0 a e M n fun e M n => R93_1 a e M n fun e M n => k .r e M n) [.t q2] [q0, q1]
def R95_0 : RegF := fun a e M n k => e.getK q1 fun v0 => bxV 73 v0 M n fun v1 M n => alV 109 (rep 9 (.i (.ofNat 0)) ++ [(.bool false), (.i (.ofNat 0)), (.i (.ofNat 0)), (.i (.ofNat 0)), (.str []), (.bool false), (.i (.ofNat 0)), (.i (.ofNat 0)), (.i (.ofNat 0)), (.i (.ofNat 0)), (.i (.ofNat 0)), .nils]) M n fun v2 M n => e.setK q4 v1 fun e => e.setK q3 v2 fun e => k e M n
def R95_1 : RegF := fun a e M n k => e.getK q0 fun v0 => e.getK q4 fun v1 => e.getK q2 fun v2 => e.getK q3 fun v3 => VV.onAny v0 (ldV M v1 3 true fun _ v4 => VV.onAny v2 (v_bld (rep 9 (.i (.ofNat 0)) ++ [(.bool false), (.i (.ofNat 0)), (.i (.ofNat 0)), (.i (.ofNat 0)), (.str []), (.bool false), (.i (.ofNat 0)), (.i (.ofNat 0)), (.i (.ofNat 0)), (.i (.ofNat 0)), (.i (.ofNat 0)), .nils]) [(0, 1, v0), (1, 1, (.i (.negSucc 0))), (18, 1, (.i (.negSucc 0))), (6, 1, (.i (.negSucc 0))), (19, 1, (.i (.negSucc 0))), (2, 3, v4), (5, 1, v2)] fun v5 => stV M v3 v5 21 fun M => k e M n))
def S95 : List (P × I) := [(s0, q0), (s1, q1), (s2, q2), (s6, q3), (s4, q4)]
def G95 : F2 := .mk (fun a e M n k => R95_0 a e M n fun e M n => R95_1 a e M n fun e M n => k .r e M n) [.c q3 21 true] [q0, q1, q2]
def R96_0 : RegF := fun a e M n k => e.getK q0 fun v0 => bxV 34 v0 M n fun v1 M n => VV.onAny (.bool false) (e.setK q1 v1 fun e => e.setK q6 (.bool false) fun e => k e M n)
def R96_1 : RegF := fun a e M n k => e.getK q1 fun v0 => v_fa v0 0 fun v1 => ldV M v1 1 false fun _ v2 => callV a s152 [v2] M n fun v3 M n => VV.onAny v3 (e.setK q2 v3 fun e => k e M n)
def R96_2 : RegF := fun a e M n k => e.getK q2 fun v0 => VV.onAny v0 (v_nqF false v0 fun v1 => e.setK q4 v1 fun e => k e M n)
def R96_3 : RegF := fun a e M n k => e.getK q2 fun v0 => e.getK q1 fun v1 => VV.onAny v0 (ldV M v1 9 true fun _ v2 => cvV a v0 [v2] M n fun v3 M n => VV.onAny v3 (v_ext v3 0 fun v4 => v_ext v3 1 fun v5 => alV 34 [(.i (.ofNat 0)), (.i (.ofNat 0)), (.i (.ofNat 0)), (.i (.ofNat 0)), (.i (.ofNat 0)), (.i (.ofNat 0)), (.i (.ofNat 0)), (.str []), (.str [])] M n fun v6 M n => stV M v6 v4 9 fun M => VV.onAny v5 (e.setK q3 v6 fun e => e.setK q5 v5 fun e => k e M n)))
def R96_4 : RegF := fun a e M n k => e.getK q1 fun v0 => e.getK q3 fun v1 => v_fa v0 0 fun v2 => ldV M v2 1 false fun _ v3 => v_fa v1 0 fun v4 => stV M v4 v3 1 fun M => k e M n
def R96_5 : RegF := fun a e M n k => e.getK q5 fun v0 => e.getK q3 fun v1 => e.getK q1 fun v2 => VV.onAny v0 (VV.onAny v0 (gdK v0 true .off M n (fun j => ldV M v1 9 true fun _ v => j v M n) fun v3 M n => gdK v0 true .off M n (fun j => ldV M v2 9 true fun _ v => j v M n) fun v4 M n => gdK v0 true .off M n (fun j => v_aeq false [(0, .i), (1, .i), (2, .i), (3, .i), (4, .i), (5, .i), (6, .i), (7, .s), (8, .s)] v3 v4 fun v => j v M n) fun v5 M n => v_pick v0 v5 (.bool false) fun v6 => VV.onAny v6 (e.setK q6 v6 fun e => k e M n)))
def R96_6 : RegF := fun a e M n k => VV.onAny (.bool false) (e.setK q6 (.bool false) fun e => k e M n)
def S96 : List (P × I) := [(s0, q0), (s1, q1), (s3, q2), (s4, q3), (s10, q4), (s5, q5), (s2, q6)]
def G96 : F2 := .mk (fun a e M n k => R96_0 a e M n fun e M n => R96_1 a e M n fun e M n => R96_2 a e M n fun e M n => e.getK q4 fun v => v.onB fun c => Bool.rec (R96_3 a e M n fun e M n => R96_4 a e M n fun e M n => R96_5 a e M n fun e M n => k .r e M n) (R96_6 a e M n fun e M n => k .r e M n) c) [.t q6] [q0]
def R97_0 : RegF := fun a e M n k => VV.onAny (.bool false) (e.setK q2 (.bool false) fun e => k e M n)
def R97_1 : RegF := fun a e M n k => e.getK q0 fun v0 => e.getK q1 fun v1 => VV.onAny v0 (VV.onAny v1 (callV a s153 [v0, v1] M n fun v2 M n => v_le (.i (.ofNat 0)) v2 fun v3 => VV.onAny v3 (e.setK q2 v3 fun e => k e M n)))
def S97 : List (P × I) := [(s0, q0), (s1, q1), (s4, q2)]
def G97 : F2 := .mk (fun a e M n k => R97_0 a e M n fun e M n => R97_1 a e M n fun e M n => k .r e M n) [.t q2] [q0, q1]
def R98_0 : RegF := fun a e M n k => e.getK q0 fun v0 => bxV 24 v0 M n fun v1 M n => VV.onAny (.bool false) (e.setK q1 v1 fun e => e.setK q2 (.bool false) fun e => k e M n)
def R98_1 : RegF := fun a e M n k => e.getK q1 fun v0 => ldV M v0 2 true fun _ v1 => callV a s99 [v1] M n fun v2 M n => v_not v2 fun v3 => VV.onAny v3 (e.setK q2 v3 fun e => k e M n)
def S98 : List (P × I) := [(s0, q0), (s1, q1), (s2, q2)]
def G98 : F2 := .mk (fun a e M n k => R98_0 a e M n fun e M n => R98_1 a e M n fun e M n => k .r e M n) [.t q2] [q0]
def R99_0 : RegF := fun a e M n k => e.getK q0 fun v0 => bxV 24 v0 M n fun v1 M n => VV.onAny (.bool false) (e.setK q1 v1 fun e => e.setK q2 (.bool false) fun e => k e M n)
def R99_1 : RegF := fun a e M n k => e.getK q1 fun v0 => v_fa v0 0 fun v1 => ldV M v1 1 false fun _ v2 => v_le (.i (.ofNat 1)) v2 fun v3 => VV.onAny v3 (gdK v3 true .off M n (fun j => v_fa v0 0 fun v => j v M n) fun v4 M n => gdK v3 true .off M n (fun j => ldV M v4 1 false fun _ v => j v M n) fun v5 M n => gdK v3 true .off M n (fun j => v_le v5 (.i (.ofNat 100)) fun v => j v M n) fun v6 M n => v_pick v3 v6 (.bool false) fun v7 => VV.onAny v7 (gdK v7 true .off M n (fun j => v_fa v0 1 fun v => j v M n) fun v8 M n => gdK v7 true .off M n (fun j => ldV M v8 1 false fun _ v => j v M n) fun v9 M n => gdK v7 true .off M n (fun j => v_le (.i (.ofNat 1)) v9 fun v => j v M n) fun v10 M n => v_pick v7 v10 (.bool false) fun v11 => VV.onAny v11 (gdK v11 true .off M n (fun j => v_fa v0 1 fun v => j v M n) fun v12 M n => gdK v11 true .off M n (fun j => ldV M v12 1 false fun _ v => j v M n) fun v13 M n => gdK v11 true .off M n (fun j => v_le v13 (.i (.ofNat 1000)) fun v => j v M n) fun v14 M n => v_pick v11 v14 (.bool false) fun v15 => VV.onAny v15 (e.setK q2 v15 fun e => k e M n))))
def S99 : List (P × I) := [(s0, q0), (s1, q1), (s2, q2)]
def G99 : F2 := .mk (fun a e M n k => R99_0 a e M n fun e M n => R99_1 a e M n fun e M n => k .r e M n) [.t q2] [q0]
def R100_0 : RegF := fun a e M n k => VV.onAny (.nils) (e.setK q2 (.nils) fun e => k e M n)
def R100_1 : RegF := fun a e M n k => e.getK q0 fun v0 => VV.onAny v0 (v_nqS false v0 fun v1 => e.setK q1 v1 fun e => k e M n)
def R100_2 : RegF := fun a e M n k => e.getK q0 fun v0 => bslV 24 2 0 [] [] M n fun v1 M n => VV.onAny v0 (appV 24 2 16 v1 v0 M n fun v2 M n => VV.onAny v2 (e.setK q2 v2 fun e => k e M n))
def R100_3 : RegF := fun a e M n k => VV.onAny (.nils) (e.setK q2 (.nils) fun e => k e M n)
def S100 : List (P × I) := [(s0, q0), (s4, q1), (s2, q2)]
def G100 : F2 := .mk (fun a e M n k => R100_0 a e M n fun e M n => R100_1 a e M n fun e M n => e.getK q1 fun v => v.onB fun c => Bool.rec (R100_2 a e M n fun e M n => k .r e M n) (R100_3 a e M n fun e M n => k .r e M n) c) [.t q2] [q0]
def R101_0 : RegF := fun a e M n k => VV.onAny (.nil) (VV.onAny (.i (.ofNat 0)) (e.setK q2 (.nil) fun e => e.setK q3 (.i (.ofNat 0)) fun e => k e M n))
def R101_1 : RegF := fun a e M n k => e.getK q0 fun v0 => VV.onAny v0 (v_lt v0 (.i (.ofNat 1)) fun v1 => VV.onAny v1 (gdK v1 false .off M n (fun j => v_mv v0 fun v => j v M n) fun v2 M n => gdK v1 false .off M n (fun j => v_lt (.i (.ofNat 64)) v2 fun v => j v M n) fun v3 M n => v_pick v1 (.bool true) v3 fun v4 => e.setK q1 v4 fun e => k e M n))
def R101_2 : RegF := fun a e M n k => e.getK q0 fun v0 => (fun M0 => VV.onAny v0 (mksV 319 64 64 (rep 64 (.int .u8 (.ofNat 0))) v0 v0 M n fun v1 M n => VV.onAny v0 (mksV 3 1 8 [(.i (.ofNat 0))] v0 v0 M n fun v2 M n => v_bld [.nils, .nils, .nils, (.i (.ofNat 0))] [(0, 1, v1), (1, 1, v2)] fun v3 => bxV 244 v3 M n fun v4 M n => VV.onAny v4 (VV.onAny (.i (.ofNat 0)) (Bool.rec false (e.setK q2 v4 fun e => e.setK q3 (.i (.ofNat 0)) fun e => k e M n) (keptB M0 M [])))))) M
def R101_3 : RegF := fun a e M n k => VV.onAny (.nil) (VV.onAny (.i (.ofNat 2)) (e.setK q2 (.nil) fun e => e.setK q3 (.i (.ofNat 2)) fun e => k e M n))
def S101 : List (P × I) := [(s0, q0), (s9, q1), (s2, q2), (s3, q3)]
def G101 : F2 := .mk (fun a e M n k => R101_0 a e M n fun e M n => R101_1 a e M n fun e M n => e.getK q1 fun v => v.onB fun c => Bool.rec (R101_2 a e M n fun e M n => k .r e M n) (R101_3 a e M n fun e M n => k .r e M n) c) [.t q2, .t q3] [q0]
def R102_0 : RegF := fun a e M n k => VV.onAny (.nil) (e.setK q2 (.nil) fun e => k e M n)
def R102_1 : RegF := fun a e M n k => e.getK q0 fun v0 => VV.onAny v0 (callV a s154 [v0] M n fun v1 M n => VV.onAny v1 (e.setK q1 v1 fun e => k e M n))
def R102_2 : RegF := fun a e M n k => e.getK q1 fun v0 => VV.onAny v0 (VV.onAny v0 (callV a s155 [v0] M n fun v1 M n => v_bld [.nil, .nil] [(0, 1, v0), (1, 1, v1)] fun v2 => bxV 250 v2 M n fun v3 M n => VV.onAny v3 (e.setK q2 v3 fun e => k e M n)))
def S102 : List (P × I) := [(s0, q0), (s3, q1), (s2, q2)]
def G102 : F2 := .mk (fun a e M n k => R102_0 a e M n fun e M n => R102_1 a e M n fun e M n => R102_2 a e M n fun e M n => k .r e M n) [.t q2] [q0]
def R103_0 : RegF := fun a e M n k => VV.onAny (.nil) (e.setK q2 (.nil) fun e => k e M n)
def R103_1 : RegF := fun a e M n k => e.getK q0 fun v0 => e.getK q1 fun v1 => VV.onAny v0 (VV.onAny v1 (mkmV M n fun v2 M n => v_bld [.nil, .nil, .nilm] [(0, 1, v0), (1, 1, v1), (2, 1, v2)] fun v3 => bxV 253 v3 M n fun v4 M n => VV.onAny v4 (e.setK q2 v4 fun e => k e M n)))
def S103 : List (P × I) := [(s0, q0), (s1, q1), (s4, q2)]
def G103 : F2 := .mk (fun a e M n k => R103_0 a e M n fun e M n => R103_1 a e M n fun e M n => k .r e M n) [.t q2] [q0, q1]
def R104_0 : RegF := fun a e M n k => VV.onAny (.nil) (e.setK q1 (.nil) fun e => k e M n)
def R104_1 : RegF := fun a e M n k => e.getK q0 fun v0 => VV.onAny v0 (v_bld [.nil, .nil, .nil, .nil, .nil] [(0, 1, v0)] fun v1 => bxV 257 v1 M n fun v2 M n => VV.onAny v2 (e.setK q1 v2 fun e => k e M n))
def S104 : List (P × I) := [(s0, q0), (s2, q1)]
def G104 : F2 := .mk (fun a e M n k => R104_0 a e M n fun e M n => R104_1 a e M n fun e M n => k .r e M n) [.t q1] [q0]
def R105_0 : RegF := fun a e M n k => VV.onAny (.nil) (e.setK q1 (.nil) fun e => k e M n)
def R105_1 : RegF := fun a e M n k => e.getK q0 fun v0 => VV.onAny v0 (v_mkf s156 [v0] [] fun v1 => VV.onAny v0 (v_mkf s157 [v0] [] fun v2 => mkmV M n fun v3 M n => v_bld [.nilf, .nilf, .nilm] [(0, 1, v1), (1, 1, v2), (2, 1, v3)] fun v4 => bxV 261 v4 M n fun v5 M n => VV.onAny v5 (e.setK q1 v5 fun e => k e M n)))
def S105 : List (P × I) := [(s0, q0), (s2, q1)]
def G105 : F2 := .mk (fun a e M n k => R105_0 a e M n fun e M n => R105_1 a e M n fun e M n => k .r e M n) [.t q1] [q0]
def R106_0 : RegF := fun a e M n k => VV.onAny (.nil) (e.setK q0 (.nil) fun e => k e M n)
def R106_1 : RegF := fun a e M n k => mkmV M n fun v0 M n => v_bld [.nilm] [(0, 1, v0)] fun v1 => bxV 264 v1 M n fun v2 M n => VV.onAny v2 (e.setK q0 v2 fun e => k e M n)
def S106 : List (P × I) := [(s0, q0)]
def G106 : F2 := .mk (fun a e M n k => R106_0 a e M n fun e M n => R106_1 a e M n fun e M n => k .r e M n) [.t q0] []
def R107_0 : RegF := fun a e M n k => VV.onAny (.i (.ofNat 0)) (e.setK q8 (.i (.ofNat 0)) fun e => k e M n)
def R107_1 : RegF := fun a e M n k => e.getK q0 fun v0 => VV.onAny v0 (v_nqP false v0 fun v1 => e.setK q3 v1 fun e => k e M n)
def R107_2 : RegF := fun a e M n k => e.getK q0 fun v0 => e.getK q1 fun v1 => VV.onAny v0 (v_nck v0 fun v2 => v_fa v2 0 fun v3 => ldV M v3 1 false fun _ v4 => VV.onAny v1 (lkuV (.agg [(.i (.ofNat 0)), (.i (.ofNat 0)), (.bool false)]) true v4 v1 M fun v5 => VV.onAny v5 (v_ext v5 0 fun v6 => v_ext v5 1 fun v7 => alV 266 [(.i (.ofNat 0)), (.i (.ofNat 0)), (.bool false)] M n fun v8 M n => stV M v8 v6 3 fun M => VV.onAny v7 (e.setK q5 v7 fun e => k e M n))))
def R107_3 : RegF := fun a e M n k => e.getK q1 fun v0 => VV.onAny v0 (v_lt v0 (.i (.ofNat 0)) fun v1 => VV.onAny v1 (e.setK q4 v1 fun e => k e M n))
def R107_4 : RegF := fun a e M n k => e.getK q5 fun v0 => VV.onAny v0 (VV.onAny v0 (e.setK q6 v0 fun e => k e M n))
def R107_5 : RegF := fun a e M n k => e.getK q2 fun v0 => e.getK q0 fun v1 => VV.onAny v0 (v_ne v0 (.i (.negSucc 0)) fun v2 => VV.onAny v2 (gdK v2 true .off M n (fun j => v_mv v1 fun v => j v M n) fun v3 M n => gdK v2 true .off M n (fun j => v_mv v0 fun v => j v M n) fun v4 M n => gdK v2 true .no M n (fun j => callV a s158 [v3, v4] M n fun v M n => j v M n) fun v5 M n => gdK v2 true .off M n (fun j => v_not v5 fun v => j v M n) fun v6 M n => v_pick v2 v6 (.bool false) fun v7 => VV.onAny v7 (e.setK q7 v7 fun e => k e M n)))
def R107_6 : RegF := fun a e M n k => e.getK q0 fun v0 => e.getK q1 fun v1 => e.getK q2 fun v2 => VV.onAny v0 (v_nck v0 fun v3 => v_fa v3 0 fun v4 => ldV M v4 1 false fun _ v5 => VV.onAny v1 (VV.onAny v2 (v_bld [(.i (.ofNat 0)), (.i (.ofNat 0)), (.bool false)] [(0, 1, v2)] fun v6 => mupV v5 v1 v6 M fun M => k e M n)))
def R107_7 : RegF := fun a e M n k => VV.onAny (.i (.ofNat 0)) (e.setK q8 (.i (.ofNat 0)) fun e => k e M n)
def R107_8 : RegF := fun a e M n k => VV.onAny (.i (.ofNat 4)) (e.setK q8 (.i (.ofNat 4)) fun e => k e M n)
def R107_9 : RegF := fun a e M n k => VV.onAny (.i (.ofNat 5)) (e.setK q8 (.i (.ofNat 5)) fun e => k e M n)
def R107_10 : RegF := fun a e M n k => VV.onAny (.i (.ofNat 2)) (e.setK q8 (.i (.ofNat 2)) fun e => k e M n)
def R107_11 : RegF := fun a e M n k => VV.onAny (.i (.ofNat 1)) (e.setK q8 (.i (.ofNat 1)) fun e => k e M n)
def S107 : List (P × I) := [(s0, q0), (s1, q1), (s2, q2), (s10, q3), (s20, q4), (s8, q5), (s23, q6), (s25, q7), (s6, q8)]
def G107 : F2 := .mk (fun a e M n k => R107_0 a e M n fun e M n => R107_1 a e M n fun e M n => e.getK q3 fun v => v.onB fun c => Bool.rec (R107_2 a e M n fun e M n => R107_3 a e M n fun e M n => e.getK q4 fun v => v.onB fun c => Bool.rec (R107_4 a e M n fun e M n => e.getK q6 fun v => v.onB fun c => Bool.rec (R107_5 a e M n fun e M n => e.getK q7 fun v => v.onB fun c => Bool.rec (R107_6 a e M n fun e M n => R107_7 a e M n fun e M n => k .r e M n) (R107_8 a e M n fun e M n => k .r e M n) c) (R107_9 a e M n fun e M n => k .r e M n) c) (R107_10 a e M n fun e M n => k .r e M n) c) (R107_11 a e M n fun e M n => k .r e M n) c) [.t q8] [q0, q1, q2]
def R108_0 : RegF := fun a e M n k => VV.onAny (.i (.ofNat 0)) (e.setK q5 (.i (.ofNat 0)) fun e => k e M n)
def R108_1 : RegF := fun a e M n k => e.getK q0 fun v0 => VV.onAny v0 (v_nqP false v0 fun v1 => VV.onAny v1 (e.setK q2 v1 fun e => k e M n))
def R108_2 : RegF := fun a e M n k => e.getK q1 fun v0 => VV.onAny v0 (v_lt v0 (.i (.ofNat 0)) fun v1 => VV.onAny v1 (e.setK q3 v1 fun e => k e M n))
def R108_3 : RegF := fun a e M n k => e.getK q0 fun v0 => e.getK q1 fun v1 => VV.onAny v0 (v_nck v0 fun v2 => v_fa v2 2 fun v3 => ldV M v3 1 false fun _ v4 => VV.onAny v1 (lkuV .nil false v4 v1 M fun v5 => v_nqP true v5 fun v6 => VV.onAny v6 (e.setK q4 v6 fun e => k e M n)))
def R108_4 : RegF := fun a e M n k => e.getK q0 fun v0 => e.getK q1 fun v1 => VV.onAny v0 (v_nck v0 fun v2 => v_fa v2 2 fun v3 => ldV M v3 1 false fun _ v4 => VV.onAny v1 (v_bld [.nil, .nil, .nil, .nil, .nil, .nil, .nil, .nil] [] fun v5 => bxV 271 v5 M n fun v6 M n => mupV v4 v1 v6 M fun M => k e M n))
def R108_5 : RegF := fun a e M n k => VV.onAny (.i (.ofNat 0)) (e.setK q5 (.i (.ofNat 0)) fun e => k e M n)
def R108_6 : RegF := fun a e M n k => VV.onAny (.i (.ofNat 5)) (e.setK q5 (.i (.ofNat 5)) fun e => k e M n)
def R108_7 : RegF := fun a e M n k => VV.onAny (.i (.ofNat 2)) (e.setK q5 (.i (.ofNat 2)) fun e => k e M n)
def R108_8 : RegF := fun a e M n k => VV.onAny (.i (.ofNat 1)) (e.setK q5 (.i (.ofNat 1)) fun e => k e M n)
def S108 : List (P × I) := [(s0, q0), (s1, q1), (s5, q2), (s8, q3), (s11, q4), (s4, q5)]
def G108 : F2 := .mk (fun a e M n k => R108_0 a e M n fun e M n => R108_1 a e M n fun e M n => e.getK q2 fun v => v.onB fun c => Bool.rec (R108_2 a e M n fun e M n => e.getK q3 fun v => v.onB fun c => Bool.rec (R108_3 a e M n fun e M n => e.getK q4 fun v => v.onB fun c => Bool.rec (R108_4 a e M n fun e M n => R108_5 a e M n fun e M n => k .r e M n) (R108_6 a e M n fun e M n => k .r e M n) c) (R108_7 a e M n fun e M n => k .r e M n) c) (R108_8 a e M n fun e M n => k .r e M n) c) [.t q5] [q0, q1]
def R109_0 : RegF := fun a e M n k => VV.onAny (.bool true) (e.setK q7 (.bool true) fun e => k e M n)
def R109_1 : RegF := fun a e M n k => VV.onAny (.bool true) (e.setK q16 (.bool true) fun e => k e M n)
def R109_2 : RegF := fun a e M n k => e.getK q2 fun v0 => e.getK q1 fun v1 => VV.onAny v0 (VV.onAny v1 (v_sub v0 v1 fun v2 => VV.onAny v2 (e.setK q6 v2 fun e => k e M n)))
def R109_3 : RegF := fun a e M n k => e.getK q6 fun v0 => VV.onAny v0 (v_le v0 (.i (.ofNat 12)) fun v1 => e.setK q12 v1 fun e => k e M n)
def R109_4 : RegF := fun a e M n k => e.getK q0 fun v0 => e.getK q1 fun v1 => e.getK q2 fun v2 => VV.onAny v0 (VV.onAny v1 (VV.onAny v2 (callV a s159 [v0, v1, v2] M n fun v3 M n => k e M n)))
def R109_5 : RegF := fun a e M n k => e.getK q3 fun v0 => VV.onAny v0 (v_eq v0 (.i (.ofNat 0)) fun v1 => e.setK q13 v1 fun e => k e M n)
def R109_6 : RegF := fun a e M n k => e.getK q0 fun v0 => e.getK q1 fun v1 => e.getK q2 fun v2 => VV.onAny v0 (VV.onAny v1 (VV.onAny v2 (callV a s160 [v0, v1, v2] M n fun v3 M n => k e M n)))
def R109_7 : RegF := fun a e M n k => e.getK q7 fun v0 => VV.onAny v0 (v_not v0 fun v1 => e.setK q14 v1 fun e => k e M n)
def R109_8 : RegF := fun a e M n k => e.getK q0 fun v0 => e.getK q1 fun v1 => e.getK q2 fun v2 => VV.onAny v0 (VV.onAny v1 (VV.onAny v2 (callV a s161 [v0, v1, v2] M n fun v3 M n => k e M n)))
def R109_9 : RegF := fun a e M n k => e.getK q3 fun v0 => VV.onAny v0 (v_sub v0 (.i (.ofNat 1)) fun v1 => VV.onAny v1 (e.setK q3 v1 fun e => k e M n))
def R109_10 : RegF := fun a e M n k => e.getK q0 fun v0 => e.getK q1 fun v1 => e.getK q2 fun v2 => VV.onAny v0 (VV.onAny v1 (VV.onAny v2 (callV a s162 [v0, v1, v2] M n fun v3 M n => VV.onAny v3 (v_ext v3 0 fun v4 => v_ext v3 1 fun v5 => VV.onAny v4 (VV.onAny v5 (e.setK q5 v4 fun e => e.setK q8 v5 fun e => k e M n))))))
def R109_11 : RegF := fun a e M n k => e.getK q8 fun v0 => VV.onAny v0 (v_eq v0 (.i (.ofNat 2)) fun v1 => e.setK q15 v1 fun e => k e M n)
def R109_12 : RegF := fun a e M n k => e.getK q0 fun v0 => e.getK q1 fun v1 => e.getK q2 fun v2 => VV.onAny v0 (VV.onAny v1 (VV.onAny v2 (callV a s163 [v0, v1, v2] M n fun v3 M n => k e M n)))
def R109_13 : RegF := fun a e M n k => e.getK q2 fun v0 => e.getK q5 fun v1 => e.getK q1 fun v2 => VV.onAny v0 (v_sub v0 (.i (.ofNat 1)) fun v3 => VV.onAny v1 (VV.onAny v2 (v_sub v1 v2 fun v4 => v_sub v3 v4 fun v5 => VV.onAny v5 (e.setK q5 v5 fun e => k e M n))))
def R109_14 : RegF := fun a e M n k => VV.onAny (.i (.ofNat 1)) (e.setK q8 (.i (.ofNat 1)) fun e => k e M n)
def R109_15 : RegF := fun a e M n k => e.getK q7 fun v0 => e.getK q16 fun v1 => e.getK q8 fun v2 => VV.onAny v0 (VV.onAny v0 (gdK v0 true .off M n (fun j => v_mv v1 fun v => j v M n) fun v3 M n => v_pick v0 v3 (.bool false) fun v4 => VV.onAny v4 (gdK v4 true .off M n (fun j => v_mv v2 fun v => j v M n) fun v5 M n => gdK v4 true .off M n (fun j => v_eq v5 (.i (.ofNat 1)) fun v => j v M n) fun v6 M n => v_pick v4 v6 (.bool false) fun v7 => e.setK q17 v7 fun e => k e M n)))
def R109_16 : RegF := fun a e M n k => e.getK q0 fun v0 => e.getK q1 fun v1 => e.getK q2 fun v2 => VV.onAny v0 (VV.onAny v1 (VV.onAny v2 (callV a s164 [v0, v1, v2] M n fun v3 M n => e.setK q18 v3 fun e => k e M n)))
def R109_17 : RegF := fun a e M n k => e.getK q1 fun v0 => e.getK q0 fun v1 => e.getK q5 fun v2 => (fun M0 => VV.onAny v0 (v_lt (.i (.ofNat 0)) v0 fun v3 => VV.onAny v3 (gdK v3 true .off M n (fun j => v_mv v1 fun v => j v M n) fun v4 M n => gdK v3 true .off M n (fun j => v_mv v0 fun v => j v M n) fun v5 M n => gdK v3 true .off M n (fun j => v_sub v5 (.i (.ofNat 1)) fun v => j v M n) fun v6 M n => gdK v3 true .off M n (fun j => v_ixS v4 v6 1 fun v => j v M n) fun v7 M n => gdK v3 true .off M n (fun j => ldV M v7 1 false fun _ v => j v M n) fun v8 M n => gdK v3 true .off M n (fun j => v_mv v1 fun v => j v M n) fun v9 M n => gdK v3 true .off M n (fun j => v_mv v2 fun v => j v M n) fun v10 M n => gdK v3 true .off M n (fun j => v_ixS v9 v10 1 fun v => j v M n) fun v11 M n => gdK v3 true .off M n (fun j => ldV M v11 1 false fun _ v => j v M n) fun v12 M n => gdK v3 true .no M n (fun j => callV a s165 [v8, v12] M n fun v M n => j v M n) fun v13 M n => gdK v3 true .off M n (fun j => v_not v13 fun v => j v M n) fun v14 M n => v_pick v3 v14 (.bool false) fun v15 => Bool.rec false (e.setK q19 v15 fun e => k e M n) (keptB M0 M [])))) M
def R109_18 : RegF := fun a e M n k => e.getK q0 fun v0 => e.getK q1 fun v1 => e.getK q2 fun v2 => e.getK q5 fun v3 => VV.onAny v0 (VV.onAny v1 (VV.onAny v2 (VV.onAny v3 (callV a s166 [v0, v1, v2, v3] M n fun v4 M n => VV.onAny v4 (e.setK q20 v4 fun e => k e M n)))))
def R109_19 : RegF := fun a e M n k => e.getK q20 fun v0 => VV.onAny v0 (VV.onAny v0 (e.setK q1 v0 fun e => k e M n))
def R109_20 : RegF := fun a e M n k => e.getK q0 fun v0 => e.getK q1 fun v1 => e.getK q2 fun v2 => e.getK q5 fun v3 => VV.onAny v0 (VV.onAny v1 (VV.onAny v2 (VV.onAny v3 (callV a s167 [v0, v1, v2, v3] M n fun v4 M n => VV.onAny v4 (v_ext v4 0 fun v5 => v_ext v4 1 fun v6 => VV.onAny v5 (VV.onAny v6 (e.setK q4 v5 fun e => e.setK q21 v6 fun e => k e M n)))))))
def R109_21 : RegF := fun a e M n k => e.getK q21 fun v0 => VV.onAny v0 (VV.onAny v0 (e.setK q16 v0 fun e => k e M n))
def R109_22 : RegF := fun a e M n k => e.getK q4 fun v0 => e.getK q1 fun v1 => e.getK q2 fun v2 => VV.onAny v0 (VV.onAny v1 (v_sub v0 v1 fun v3 => VV.onAny v2 (VV.onAny v0 (v_sub v2 v0 fun v4 => VV.onAny v3 (VV.onAny v4 (e.setK q9 v3 fun e => e.setK q10 v4 fun e => k e M n))))))
def R109_23 : RegF := fun a e M n k => e.getK q6 fun v0 => VV.onAny v0 (v_quo v0 (.i (.ofNat 8)) fun v1 => VV.onAny v1 (e.setK q11 v1 fun e => k e M n))
def R109_24 : RegF := fun a e M n k => e.getK q9 fun v0 => e.getK q10 fun v1 => VV.onAny v0 (VV.onAny v1 (v_lt v0 v1 fun v2 => e.setK q22 v2 fun e => k e M n))
def R109_25 : RegF := fun a e M n k => e.getK q9 fun v0 => e.getK q11 fun v1 => VV.onAny v0 (VV.onAny v1 (v_le v1 v0 fun v2 => VV.onAny v2 (e.setK q7 v2 fun e => k e M n)))
def R109_26 : RegF := fun a e M n k => e.getK q0 fun v0 => e.getK q1 fun v1 => e.getK q4 fun v2 => e.getK q3 fun v3 => VV.onAny v0 (VV.onAny v1 (VV.onAny v2 (VV.onAny v3 (callV a s109 [v0, v1, v2, v3] M n fun v4 M n => k e M n))))
def R109_27 : RegF := fun a e M n k => e.getK q4 fun v0 => VV.onAny v0 (v_add v0 (.i (.ofNat 1)) fun v1 => VV.onAny v1 (e.setK q1 v1 fun e => k e M n))
def R109_28 : RegF := fun a e M n k => e.getK q10 fun v0 => e.getK q11 fun v1 => VV.onAny v0 (VV.onAny v1 (v_le v1 v0 fun v2 => VV.onAny v2 (e.setK q7 v2 fun e => k e M n)))
def R109_29 : RegF := fun a e M n k => e.getK q0 fun v0 => e.getK q4 fun v1 => e.getK q2 fun v2 => e.getK q3 fun v3 => VV.onAny v0 (VV.onAny v1 (v_add v1 (.i (.ofNat 1)) fun v4 => VV.onAny v2 (VV.onAny v3 (callV a s109 [v0, v4, v2, v3] M n fun v5 M n => k e M n))))
def R109_30 : RegF := fun a e M n k => e.getK q4 fun v0 => VV.onAny v0 (VV.onAny v0 (e.setK q2 v0 fun e => k e M n))
def S109 : List (P × I) := [(s0, q0), (s1, q1), (s2, q2), (s3, q3), (s14, q4), (s11, q5), (s10, q6), (s8, q7), (s12, q8), (s16, q9), (s17, q10), (s18, q11), (s23, q12), (s29, q13), (s35, q14), (s50, q15), (s9, q16), (s68, q17), (s72, q18), (s87, q19), (s13, q20), (s15, q21), (s113, q22)]
def G109 : F2 := .mk ((c_seq (c_fn R109_0) (c_seq (c_fn R109_1) (c_blk 0 (loopK (c_blk 1 (c_seq (c_fn R109_2) (c_seq (c_seq (c_fn R109_3) (c_cond (.t q12) (c_seq (c_fn R109_4) c_ret) c_skip)) (c_seq (c_seq (c_fn R109_5) (c_cond (.t q13) (c_seq (c_fn R109_6) c_ret) c_skip)) (c_seq (c_seq (c_fn R109_7) (c_cond (.t q14) (c_seq (c_fn R109_8) (c_fn R109_9)) c_skip)) (c_seq (c_fn R109_10) (c_seq (c_seq (c_fn R109_11) (c_cond (.t q15) (c_seq (c_fn R109_12) (c_seq (c_fn R109_13) (c_fn R109_14))) c_skip)) (c_seq (c_seq (c_fn R109_15) (c_cond (.t q17) (c_seq (c_fn R109_16) (c_cond (.t q18) c_ret c_skip)) c_skip)) (c_seq (c_seq (c_fn R109_17) (c_cond (.t q19) (c_seq (c_fn R109_18) (c_seq (c_fn R109_19) (c_exit 1))) c_skip)) (c_seq (c_fn R109_20) (c_seq (c_fn R109_21) (c_seq (c_fn R109_22) (c_seq (c_fn R109_23) (c_seq (c_fn R109_24) (c_cond (.t q22) (c_seq (c_fn R109_25) (c_seq (c_fn R109_26) (c_fn R109_27))) (c_seq (c_fn R109_28) (c_seq (c_fn R109_29) (c_fn R109_30))))))))))))))))))))))) [] [q0, q1, q2, q3]
def R110_0 : RegF := fun a e M n k => VV.onAny (.i (.ofNat 0)) (e.setK q1 (.i (.ofNat 0)) fun e => k e M n)
def R110_1 : RegF := fun a e M n k => e.getK q0 fun v0 => VV.onAny v0 (callV a s169 [v0] M n fun v1 M n => VV.onAny v1 (e.setK q1 v1 fun e => k e M n))
def R110_2 : RegF := fun a e M n k => e.getK q0 fun v0 => VV.onAny v0 (v_conv .u32 v0 fun v1 => callV a s168 [v1] M n fun v2 M n => VV.onAny v2 (e.setK q1 v2 fun e => k e M n))
def S110 : List (P × I) := [(s0, q0), (s2, q1)]
def G110 : F2 := .mk (fun a e M n k => R110_0 a e M n fun e M n => VV.onB (.bool false) fun c => Bool.rec (R110_1 a e M n fun e M n => k .r e M n) (R110_2 a e M n fun e M n => k .r e M n) c) [.t q1] [q0]
def R114_0 : RegF := fun a e M n k => VV.onAny (.i (.ofNat 0)) (e.setK q7 (.i (.ofNat 0)) fun e => k e M n)
def R114_1 : RegF := fun a e M n k => VV.onAny (.i (.ofNat 0)) (e.setK q2 (.i (.ofNat 0)) fun e => k e M n)
def R114_2 : RegF := fun a e M n k => e.getK q2 fun v0 => VV.onAny v0 (VV.onAny v0 (e.setK q7 v0 fun e => k e M n))
def R114_3 : RegF := fun a e M n k => e.getK q0 fun v0 => VV.onAny v0 (v_lenS v0 fun v1 => VV.onAny (.i (.ofNat 0)) (e.setK q5 v0 fun e => e.setK q3 v1 fun e => e.setK q1 (.i (.ofNat 0)) fun e => k e M n))
def R114_4 : RegF := fun a e M n k => e.getK q1 fun v0 => e.getK q3 fun v1 => v_lt v0 v1 fun v2 => e.setK q4 v2 fun e => k e M n
def R114_5 : RegF := fun a e M n k => e.getK q5 fun v0 => e.getK q1 fun v1 => v_ixS v0 v1 1 fun v2 => ldV M v2 1 false fun _ v3 => VV.onAny v3 (e.setK q6 v3 fun e => k e M n)
def R114_6 : RegF := fun a e M n k => e.getK q2 fun v0 => e.getK q6 fun v1 => VV.onAny v0 (VV.onAny v1 (callV a s77 [v1] M n fun v2 M n => v_add v0 v2 fun v3 => callV a s77 [v3] M n fun v4 M n => VV.onAny v4 (e.setK q2 v4 fun e => k e M n)))
def R114_7 : RegF := fun a e M n k => e.getK q1 fun v0 => v_add v0 (.i (.ofNat 1)) fun v1 => VV.onAny v1 (e.setK q1 v1 fun e => k e M n)
def S114 : List (P × I) := [(s0, q0), (s8, q1), (s3, q2), (s7, q3), (s9, q4), (s6, q5), (s5, q6), (s2, q7)]
def G114 : F2 := .mk (fun a e M n k => R114_0 a e M n fun e M n => R114_1 a e M n fun e M n => (fun (j0 : En → Mem → P → Bool) => R114_3 a e M n fun e M n => (fun (j1 : En → Mem → P → Bool) => loopK (fun a e M n k => R114_4 a e M n fun e M n => e.getK q4 fun v => v.onB fun c => Bool.rec (k (.x 0) e M n) (R114_5 a e M n fun e M n => R114_6 a e M n fun e M n => R114_7 a e M n fun e M n => k .n e M n) c) a e M n fun ex e M n => Ex.rec (j1 e M n) (k .r e M n) (fun id => Bool.rec (k (.x id) e M n) (j1 e M n) (Nat.beq id 0)) ex) fun e M n => j0 e M n) fun e M n => R114_2 a e M n fun e M n => k .r e M n) [.t q7] [q0]
def R115_0 : RegF := fun a e M n k => e.getK q0 fun v0 => e.getK q1 fun v1 => bxV 109 v0 M n fun v2 M n => bxV 37 v1 M n fun v3 M n => alV 109 (rep 9 (.i (.ofNat 0)) ++ [(.bool false), (.i (.ofNat 0)), (.i (.ofNat 0)), (.i (.ofNat 0)), (.str []), (.bool false), (.i (.ofNat 0)), (.i (.ofNat 0)), (.i (.ofNat 0)), (.i (.ofNat 0)), (.i (.ofNat 0)), .nils]) M n fun v4 M n => VV.onAny (.bool false) (e.setK q3 v2 fun e => e.setK q5 v3 fun e => e.setK q4 v4 fun e => e.setK q8 (.bool false) fun e => k e M n)
def R115_1 : RegF := fun a e M n k => e.getK q3 fun v0 => e.getK q5 fun v1 => e.getK q2 fun v2 => ldV M v0 21 true fun _ v3 => ldV M v1 8 true fun _ v4 => VV.onAny v2 (callV a s172 [v3, v4, v2] M n fun v5 M n => v_not v5 fun v6 => e.setK q6 v6 fun e => k e M n)
def R115_2 : RegF := fun a e M n k => VV.onAny (.fn s173 [] []) (e.setK q7 (.fn s173 [] []) fun e => k e M n)
def R115_3 : RegF := fun a e M n k => e.getK q7 fun v0 => e.getK q3 fun v1 => e.getK q5 fun v2 => e.getK q2 fun v3 => e.getK q4 fun v4 => VV.onAny v0 (ldV M v1 21 true fun _ v5 => ldV M v2 8 true fun _ v6 => VV.onAny v3 (cvV a v0 [v5, v6, v3] M n fun v7 M n => callV a s127 [v7] M n fun v8 M n => stV M v4 v8 21 fun M => VV.onAny (.bool true) (e.setK q8 (.bool true) fun e => k e M n)))
def R115_4 : RegF := fun a e M n k => e.getK q3 fun v0 => e.getK q4 fun v1 => ldV M v0 21 true fun _ v2 => callV a s127 [v2] M n fun v3 M n => stV M v1 v3 21 fun M => VV.onAny (.bool false) (e.setK q8 (.bool false) fun e => k e M n)
def S115 : List (P × I) := [(s0, q0), (s1, q1), (s2, q2), (s3, q3), (s6, q4), (s4, q5), (s13, q6), (s8, q7), (s7, q8)]
def G115 : F2 := .mk (fun a e M n k => R115_0 a e M n fun e M n => R115_1 a e M n fun e M n => e.getK q6 fun v => v.onB fun c => Bool.rec (R115_2 a e M n fun e M n => R115_3 a e M n fun e M n => k .r e M n) (R115_4 a e M n fun e M n => k .r e M n) c) [.c q4 21 true, .t q8] [q0, q1, q2]
def R116_0 : RegF := fun a e M n k => VV.onAny (.i (.ofNat 0)) (e.setK q7 (.i (.ofNat 0)) fun e => k e M n)
def R116_1 : RegF := fun a e M n k => VV.onAny (.i (.negSucc 0)) (e.setK q7 (.i (.negSucc 0)) fun e => k e M n)
def R116_2 : RegF := fun a e M n k => e.getK q0 fun v0 => VV.onAny v0 (v_lenS v0 fun v1 => VV.onAny (.i (.ofNat 0)) (e.setK q4 v1 fun e => e.setK q2 (.i (.ofNat 0)) fun e => k e M n))
def R116_3 : RegF := fun a e M n k => e.getK q2 fun v0 => e.getK q4 fun v1 => v_lt v0 v1 fun v2 => e.setK q5 v2 fun e => k e M n
def R116_4 : RegF := fun a e M n k => e.getK q2 fun v0 => VV.onAny v0 (VV.onAny v0 (e.setK q3 v0 fun e => k e M n))
def R116_5 : RegF := fun a e M n k => e.getK q1 fun v0 => e.getK q0 fun v1 => e.getK q3 fun v2 => VV.onAny v0 (VV.onAny v1 (VV.onAny v2 (v_ixS v1 v2 1 fun v3 => ldV M v3 1 false fun _ v4 => cvV a v0 [v4] M n fun v5 M n => e.setK q6 v5 fun e => k e M n)))
def R116_6 : RegF := fun a e M n k => e.getK q2 fun v0 => v_add v0 (.i (.ofNat 1)) fun v1 => VV.onAny v1 (e.setK q2 v1 fun e => k e M n)
def R116_7 : RegF := fun a e M n k => e.getK q3 fun v0 => VV.onAny v0 (VV.onAny v0 (e.setK q7 v0 fun e => k e M n))
def S116 : List (P × I) := [(s0, q0), (s1, q1), (s8, q2), (s5, q3), (s7, q4), (s9, q5), (s16, q6), (s4, q7)]
def G116 : F2 := .mk (fun a e M n k => R116_0 a e M n fun e M n => (fun (j0 : En → Mem → P → Bool) => R116_2 a e M n fun e M n => (fun (j1 : En → Mem → P → Bool) => loopK (fun a e M n k => R116_3 a e M n fun e M n => e.getK q5 fun v => v.onB fun c => Bool.rec (k (.x 0) e M n) (R116_4 a e M n fun e M n => R116_5 a e M n fun e M n => e.getK q6 fun v => v.onB fun c => Bool.rec (R116_6 a e M n fun e M n => k .n e M n) (R116_7 a e M n fun e M n => k .r e M n) c) c) a e M n fun ex e M n => Ex.rec (j1 e M n) (k .r e M n) (fun id => Bool.rec (k (.x id) e M n) (j1 e M n) (Nat.beq id 0)) ex) fun e M n => j0 e M n) fun e M n => R116_1 a e M n fun e M n => k .r e M n) [.t q7] [q0, q1]
def R119_0 : RegF := fun a e M n k => VV.onAny (.nils) (e.setK q2 (.nils) fun e => k e M n)
def R119_1 : RegF := fun a e M n k => e.getK q0 fun v0 => VV.onAny v0 (v_nqP false v0 fun v1 => e.setK q1 v1 fun e => k e M n)
def R119_2 : RegF := fun a e M n k => e.getK q0 fun v0 => VV.onAny v0 (v_nck v0 fun v1 => v_fa v1 2 fun v2 => ldV M v2 1 false fun _ v3 => callV a s43 [v3] M n fun v4 M n => VV.onAny v4 (e.setK q2 v4 fun e => k e M n))
def R119_3 : RegF := fun a e M n k => VV.onAny (.nils) (e.setK q2 (.nils) fun e => k e M n)
def S119 : List (P × I) := [(s0, q0), (s4, q1), (s2, q2)]
def G119 : F2 := .mk (fun a e M n k => R119_0 a e M n fun e M n => R119_1 a e M n fun e M n => e.getK q1 fun v => v.onB fun c => Bool.rec (R119_2 a e M n fun e M n => k .r e M n) (R119_3 a e M n fun e M n => k .r e M n) c) [.t q2] [q0]
def R120_0 : RegF := fun a e M n k => VV.onAny (.nils) (e.setK q3 (.nils) fun e => k e M n)
def R120_1 : RegF := fun a e M n k => e.getK q0 fun v0 => VV.onAny v0 (v_nqP false v0 fun v1 => e.setK q2 v1 fun e => k e M n)
def R120_2 : RegF := fun a e M n k => e.getK q0 fun v0 => e.getK q1 fun v1 => VV.onAny v0 (v_nck v0 fun v2 => v_fa v2 1 fun v3 => ldV M v3 1 false fun _ v4 => VV.onAny v1 (lkuV .nils false v4 v1 M fun v5 => callV a s174 [v5] M n fun v6 M n => VV.onAny v6 (e.setK q3 v6 fun e => k e M n)))
def R120_3 : RegF := fun a e M n k => VV.onAny (.nils) (e.setK q3 (.nils) fun e => k e M n)
def S120 : List (P × I) := [(s0, q0), (s1, q1), (s6, q2), (s4, q3)]
def G120 : F2 := .mk (fun a e M n k => R120_0 a e M n fun e M n => R120_1 a e M n fun e M n => e.getK q2 fun v => v.onB fun c => Bool.rec (R120_2 a e M n fun e M n => k .r e M n) (R120_3 a e M n fun e M n => k .r e M n) c) [.t q3] [q0, q1]
def R122_0 : RegF := fun a e M n k => VV.onAny (.i (.ofNat 0)) (VV.onAny (.bool false) (e.setK q9 (.i (.ofNat 0)) fun e => e.setK q10 (.bool false) fun e => k e M n))
def R122_1 : RegF := fun a e M n k => callV a s175 [] M n fun v0 M n => VV.onAny v0 (e.setK q3 v0 fun e => k e M n)
def R122_2 : RegF := fun a e M n k => e.getK q3 fun v0 => VV.onAny v0 (callV a s177 [v0] M n fun v1 M n => v_ext v1 0 fun v2 => v_ext v1 1 fun v3 => VV.onAny v2 (VV.onAny v3 (e.setK q9 v2 fun e => e.setK q10 v3 fun e => k e M n)))
def R122_3 : RegF := fun a e M n k => e.getK q0 fun v0 => VV.onAny v0 (callV a s17 [v0] M n fun v1 M n => v_lenS v1 fun v2 => VV.onAny (.i (.ofNat 0)) (e.setK q6 v1 fun e => e.setK q4 v2 fun e => e.setK q1 (.i (.ofNat 0)) fun e => k e M n))
def R122_4 : RegF := fun a e M n k => e.getK q1 fun v0 => e.getK q4 fun v1 => v_lt v0 v1 fun v2 => e.setK q5 v2 fun e => k e M n
def R122_5 : RegF := fun a e M n k => e.getK q1 fun v0 => v_add v0 (.i (.ofNat 1)) fun v1 => VV.onAny v1 (e.setK q1 v1 fun e => k e M n)
def R122_6 : RegF := fun a e M n k => e.getK q1 fun v0 => e.getK q6 fun v1 => VV.onAny v0 (v_ixS v1 v0 3 fun v2 => ldV M v2 3 true fun _ v3 => alV 73 [(.i (.ofNat 0)), (.i (.ofNat 0)), (.i (.ofNat 0))] M n fun v4 M n => VV.onAny v0 (stV M v4 v3 3 fun M => e.setK q8 v4 fun e => e.setK q2 v0 fun e => k e M n))
def R122_7 : RegF := fun a e M n k => e.getK q0 fun v0 => e.getK q2 fun v1 => VV.onAny v0 (v_nck v0 fun v2 => v_fa v2 2 fun v3 => ldV M v3 1 false fun _ v4 => VV.onAny v1 (v_ixS v4 v1 21 fun v5 => v_fa v5 5 fun v6 => ldV M v6 1 false fun _ v7 => v_eq v7 (.i (.ofNat 1)) fun v8 => e.setK q7 v8 fun e => k e M n))
def R122_8 : RegF := fun a e M n k => e.getK q3 fun v0 => e.getK q2 fun v1 => e.getK q8 fun v2 => VV.onAny v0 (VV.onAny v1 (ldV M v2 3 true fun _ v3 => callV a s176 [v0, v1, v3] M n fun v4 M n => k e M n))
def S122 : List (P × I) := [(s0, q0), (s11, q1), (s5, q2), (s4, q3), (s10, q4), (s12, q5), (s9, q6), (s24, q7), (s6, q8), (s2, q9), (s3, q10)]
def G122 : F2 := .mk (fun a e M n k => R122_0 a e M n fun e M n => R122_1 a e M n fun e M n => (fun (j0 : En → Mem → P → Bool) => R122_3 a e M n fun e M n => (fun (j1 : En → Mem → P → Bool) => loopK (fun a e M n k => R122_4 a e M n fun e M n => e.getK q5 fun v => v.onB fun c => Bool.rec (k (.x 0) e M n) ((fun (j2 : En → Mem → P → Bool) => (fun (j3 : En → Mem → P → Bool) => R122_6 a e M n fun e M n => R122_7 a e M n fun e M n => (fun (j4 : En → Mem → P → Bool) => e.getK q7 fun v => v.onB fun c => Bool.rec (j4 e M n) (R122_8 a e M n fun e M n => j4 e M n) c) fun e M n => j3 e M n) fun e M n => j2 e M n) fun e M n => R122_5 a e M n fun e M n => k .n e M n) c) a e M n fun ex e M n => Ex.rec (j1 e M n) (k .r e M n) (fun id => Bool.rec (k (.x id) e M n) (j1 e M n) (Nat.beq id 0)) ex) fun e M n => j0 e M n) fun e M n => R122_2 a e M n fun e M n => k .r e M n) [.t q9, .t q10] [q0]
def R123_0 : RegF := fun a e M n k => VV.onAny (.i (.ofNat 0)) (VV.onAny (.bool false) (e.setK q7 (.i (.ofNat 0)) fun e => e.setK q8 (.bool false) fun e => k e M n))
def R123_1 : RegF := fun a e M n k => e.getK q0 fun v0 => e.getK q1 fun v1 => VV.onAny v0 (v_nck v0 fun v2 => v_fa v2 2 fun v3 => ldV M v3 1 false fun _ v4 => VV.onAny v1 (v_ixS v4 v1 21 fun v5 => v_fa v5 19 fun v6 => ldV M v6 1 false fun _ v7 => VV.onAny v7 (e.setK q2 v7 fun e => k e M n)))
def R123_2 : RegF := fun a e M n k => e.getK q0 fun v0 => e.getK q2 fun v1 => VV.onAny v0 (v_nck v0 fun v2 => v_fa v2 5 fun v3 => ldV M v3 1 false fun _ v4 => VV.onAny v1 (callV a s82 [v4, v1] M n fun v5 M n => VV.onAny v5 (e.setK q6 v5 fun e => k e M n)))
def R123_3 : RegF := fun a e M n k => e.getK q2 fun v0 => e.getK q6 fun v1 => e.getK q1 fun v2 => VV.onAny v0 (VV.onAny v1 (v_le (.i (.ofNat 0)) v1 fun v3 => VV.onAny v3 (gdK v3 true .off M n (fun j => v_mv v1 fun v => j v M n) fun v4 M n => gdK v3 true .off M n (fun j => v_mv v2 fun v => j v M n) fun v5 M n => gdK v3 true .off M n (fun j => v_ne v4 v5 fun v => j v M n) fun v6 M n => v_pick v3 v6 (.bool false) fun v7 => VV.onAny v0 (VV.onAny v7 (e.setK q7 v0 fun e => e.setK q8 v7 fun e => k e M n)))))
def R123_4 : RegF := fun a e M n k => e.getK q0 fun v0 => e.getK q1 fun v1 => VV.onAny v0 (VV.onAny v1 (callV a s74 [v0, v1] M n fun v2 M n => alV 34 [(.i (.ofNat 0)), (.i (.ofNat 0)), (.i (.ofNat 0)), (.i (.ofNat 0)), (.i (.ofNat 0)), (.i (.ofNat 0)), (.i (.ofNat 0)), (.str []), (.str [])] M n fun v3 M n => stV M v3 v2 9 fun M => e.setK q3 v3 fun e => k e M n))
def R123_5 : RegF := fun a e M n k => e.getK q2 fun v0 => VV.onAny v0 (v_lt v0 (.i (.ofNat 0)) fun v1 => e.setK q4 v1 fun e => k e M n)
def R123_6 : RegF := fun a e M n k => e.getK q3 fun v0 => e.getK q0 fun v1 => e.getK q1 fun v2 => (fun M0 => v_fa v0 0 fun v3 => ldV M v3 1 false fun _ v4 => v_ne v4 (.i (.ofNat 2)) fun v5 => VV.onAny v5 (gdK v5 false .off M n (fun j => v_mv v1 fun v => j v M n) fun v6 M n => gdK v5 false .off M n (fun j => v_mv v2 fun v => j v M n) fun v7 M n => gdK v5 false .off M n (fun j => v_fa v0 1 fun v => j v M n) fun v8 M n => gdK v5 false .off M n (fun j => ldV M v8 1 false fun _ v => j v M n) fun v9 M n => gdK v5 false .no M n (fun j => callV a s178 [v6, v7, v9] M n fun v M n => j v M n) fun v10 M n => gdK v5 false .off M n (fun j => v_not v10 fun v => j v M n) fun v11 M n => v_pick v5 (.bool true) v11 fun v12 => VV.onAny v12 (gdK v12 false .off M n (fun j => v_mv v1 fun v => j v M n) fun v13 M n => gdK v12 false .off M n (fun j => v_nck v13 fun v => j v M n) fun v14 M n => gdK v12 false .off M n (fun j => v_fa v14 4 fun v => j v M n) fun v15 M n => gsK v12 false [] (fun j => ldV M v15 1 false fun b v => j v (b :: [])) fun v16 av16 => gdK v12 false .off M n (fun j => v_mv v1 fun v => j v M n) fun v17 M n => gdK v12 false .off M n (fun j => v_mv v2 fun v => j v M n) fun v18 M n => gdK v12 false .no M n (fun j => callV a s180 [v17, v18] M n fun v M n => j v M n) fun v19 M n => gdK v12 false .off M n (fun j => v_fa v0 1 fun v => j v M n) fun v20 M n => gsK v12 false av16 (fun j => ldV M v20 1 false fun b v => j v (b :: av16)) fun v21 av21 => gdK v12 false .no M n (fun j => callV a s179 [v16, v19, v21] M n fun v M n => j v M n) fun v22 M n => gdK v12 false .off M n (fun j => v_ne v22 (.i (.ofNat 0)) fun v => j v M n) fun v23 M n => v_pick v12 (.bool true) v23 fun v24 => Bool.rec false (e.setK q5 v24 fun e => k e M n) (keptB M0 M av21)))) M
def R123_7 : RegF := fun a e M n k => e.getK q3 fun v0 => v_fa v0 1 fun v1 => ldV M v1 1 false fun _ v2 => VV.onAny v2 (e.setK q2 v2 fun e => k e M n)
def R123_8 : RegF := fun a e M n k => VV.onAny (.i (.ofNat 0)) (VV.onAny (.bool false) (e.setK q7 (.i (.ofNat 0)) fun e => e.setK q8 (.bool false) fun e => k e M n))
def S123 : List (P × I) := [(s0, q0), (s1, q1), (s6, q2), (s7, q3), (s21, q4), (s45, q5), (s8, q6), (s4, q7), (s5, q8)]
def G123 : F2 := .mk (fun a e M n k => R123_0 a e M n fun e M n => R123_1 a e M n fun e M n => (fun (j0 : En → Mem → P → Bool) => R123_4 a e M n fun e M n => R123_5 a e M n fun e M n => (fun (j1 : En → Mem → P → Bool) => e.getK q4 fun v => v.onB fun c => Bool.rec (j1 e M n) (R123_6 a e M n fun e M n => e.getK q5 fun v => v.onB fun c => Bool.rec (R123_7 a e M n fun e M n => j1 e M n) (R123_8 a e M n fun e M n => k .r e M n) c) c) fun e M n => j0 e M n) fun e M n => R123_2 a e M n fun e M n => R123_3 a e M n fun e M n => k .r e M n) [.t q7, .t q8] [q0, q1]
def R124_0 : RegF := fun a e M n k => VV.onAny (.bool false) (VV.onAny (.i (.ofNat 0)) (e.setK q9 (.bool false) fun e => e.setK q10 (.i (.ofNat 0)) fun e => k e M n))
def R124_1 : RegF := fun a e M n k => e.getK q0 fun v0 => VV.onAny v0 (v_nqP false v0 fun v1 => VV.onAny v1 (e.setK q4 v1 fun e => k e M n))
def R124_2 : RegF := fun a e M n k => e.getK q1 fun v0 => VV.onAny v0 (v_lt v0 (.i (.ofNat 0)) fun v1 => VV.onAny v1 (e.setK q5 v1 fun e => k e M n))
def R124_3 : RegF := fun a e M n k => e.getK q0 fun v0 => e.getK q1 fun v1 => VV.onAny v0 (VV.onAny v1 (callV a s33 [v0, v1] M n fun v2 M n => v_le (.i (.ofNat 0)) v2 fun v3 => VV.onAny v3 (e.setK q6 v3 fun e => k e M n)))
def R124_4 : RegF := fun a e M n k => e.getK q0 fun v0 => e.getK q1 fun v1 => e.getK q2 fun v2 => (fun M0 => VV.onAny v0 (v_nck v0 fun v3 => v_fa v3 0 fun v4 => ldV M v4 1 false fun bv5 v5 => VV.onAny v0 (VV.onAny v1 (callV a s181 [v0, v1] M n fun v6 M n => VV.onAny v2 (callV a s179 [v5, v6, v2] M n fun v7 M n => VV.onAny v7 (Bool.rec false (e.setK q3 v7 fun e => k e M n) (keptB M0 M (bv5 :: [])))))))) M
def R124_5 : RegF := fun a e M n k => e.getK q3 fun v0 => VV.onAny v0 (v_ne v0 (.i (.ofNat 0)) fun v1 => e.setK q7 v1 fun e => k e M n)
def R124_6 : RegF := fun a e M n k => e.getK q0 fun v0 => e.getK q2 fun v1 => VV.onAny v0 (VV.onAny v1 (callV a s82 [v0, v1] M n fun v2 M n => v_le (.i (.ofNat 0)) v2 fun v3 => e.setK q8 v3 fun e => k e M n))
def R124_7 : RegF := fun a e M n k => e.getK q0 fun v0 => e.getK q1 fun v1 => e.getK q2 fun v2 => (fun M0 => VV.onAny v0 (v_nck v0 fun v3 => v_fa v3 1 fun v4 => ldV M v4 1 false fun bv5 v5 => VV.onAny v1 (VV.onAny v0 (v_nck v0 fun v6 => v_fa v6 1 fun v7 => ldV M v7 1 false fun _ v8 => VV.onAny v1 (lkuV .nils false v8 v1 M fun v9 => VV.onAny v2 (v_bld [(.i (.ofNat 0)), (.i (.ofNat 0))] [(0, 1, v2)] fun v10 => bslV 228 2 1 [(.i (.ofNat 0)), (.i (.ofNat 0))] [(0, 2, v10)] M n fun v11 M n => appV 228 2 16 v9 v11 M n fun v12 M n => mupV v5 v1 v12 M fun M => Bool.rec false (k e M n) (keptB M0 M (bv5 :: [])))))))) M
def R124_8 : RegF := fun a e M n k => VV.onAny (.bool true) (VV.onAny (.i (.ofNat 0)) (e.setK q9 (.bool true) fun e => e.setK q10 (.i (.ofNat 0)) fun e => k e M n))
def R124_9 : RegF := fun a e M n k => e.getK q0 fun v0 => e.getK q1 fun v1 => e.getK q2 fun v2 => VV.onAny v0 (v_nck v0 fun v3 => v_fa v3 2 fun v4 => ldV M v4 1 false fun _ v5 => VV.onAny v1 (VV.onAny v2 (mupV v5 v1 v2 M fun M => k e M n)))
def R124_10 : RegF := fun a e M n k => VV.onAny (.bool false) (VV.onAny (.i (.ofNat 0)) (e.setK q9 (.bool false) fun e => e.setK q10 (.i (.ofNat 0)) fun e => k e M n))
def R124_11 : RegF := fun a e M n k => e.getK q3 fun v0 => VV.onAny v0 (VV.onAny (.bool false) (VV.onAny v0 (e.setK q9 (.bool false) fun e => e.setK q10 v0 fun e => k e M n)))
def R124_12 : RegF := fun a e M n k => VV.onAny (.bool false) (VV.onAny (.i (.ofNat 5)) (e.setK q9 (.bool false) fun e => e.setK q10 (.i (.ofNat 5)) fun e => k e M n))
def R124_13 : RegF := fun a e M n k => VV.onAny (.bool false) (VV.onAny (.i (.ofNat 2)) (e.setK q9 (.bool false) fun e => e.setK q10 (.i (.ofNat 2)) fun e => k e M n))
def R124_14 : RegF := fun a e M n k => VV.onAny (.bool false) (VV.onAny (.i (.ofNat 1)) (e.setK q9 (.bool false) fun e => e.setK q10 (.i (.ofNat 1)) fun e => k e M n))
def S124 : List (P × I) := [(s0, q0), (s1, q1), (s2, q2), (s8, q3), (s9, q4), (s12, q5), (s15, q6), (s30, q7), (s35, q8), (s6, q9), (s7, q10)]
def G124 : F2 := .mk (fun a e M n k => R124_0 a e M n fun e M n => R124_1 a e M n fun e M n => e.getK q4 fun v => v.onB fun c => Bool.rec (R124_2 a e M n fun e M n => e.getK q5 fun v => v.onB fun c => Bool.rec (R124_3 a e M n fun e M n => e.getK q6 fun v => v.onB fun c => Bool.rec (R124_4 a e M n fun e M n => R124_5 a e M n fun e M n => e.getK q7 fun v => v.onB fun c => Bool.rec (R124_6 a e M n fun e M n => e.getK q8 fun v => v.onB fun c => Bool.rec (R124_7 a e M n fun e M n => R124_8 a e M n fun e M n => k .r e M n) (R124_9 a e M n fun e M n => R124_10 a e M n fun e M n => k .r e M n) c) (R124_11 a e M n fun e M n => k .r e M n) c) (R124_12 a e M n fun e M n => k .r e M n) c) (R124_13 a e M n fun e M n => k .r e M n) c) (R124_14 a e M n fun e M n => k .r e M n) c) [.t q9, .t q10] [q0, q1, q2]
def R125_0 : RegF := fun a e M n k => VV.onAny (.bool false) (e.setK q6 (.bool false) fun e => k e M n)
def R125_1 : RegF := fun a e M n k => e.getK q0 fun v0 => e.getK q1 fun v1 => (fun M0 => VV.onAny v0 (VV.onAny v1 (callV a s74 [v0, v1] M n fun v2 M n => VV.onAny v0 (v_nck v0 fun v3 => v_fa v3 2 fun v4 => ldV M v4 1 false fun bv5 v5 => VV.onAny v1 (v_ixS v5 v1 21 fun v6 => ldV M v6 21 true fun bv7 v7 => alV 34 [(.i (.ofNat 0)), (.i (.ofNat 0)), (.i (.ofNat 0)), (.i (.ofNat 0)), (.i (.ofNat 0)), (.i (.ofNat 0)), (.i (.ofNat 0)), (.str []), (.str [])] M n fun v8 M n => alV 109 (rep 9 (.i (.ofNat 0)) ++ [(.bool false), (.i (.ofNat 0)), (.i (.ofNat 0)), (.i (.ofNat 0)), (.str []), (.bool false), (.i (.ofNat 0)), (.i (.ofNat 0)), (.i (.ofNat 0)), (.i (.ofNat 0)), (.i (.ofNat 0)), .nils]) M n fun v9 M n => stV M v8 v2 9 fun M => Bool.rec false (stV M v9 v7 21 fun M => e.setK q3 v8 fun e => e.setK q2 v9 fun e => k e M n) (keptB M0 M (bv7 :: (bv5 :: [])))))))) M
def R125_2 : RegF := fun a e M n k => e.getK q3 fun v0 => e.getK q2 fun v1 => v_fa v0 0 fun v2 => ldV M v2 1 false fun _ v3 => v_ne v3 (.i (.ofNat 10)) fun v4 => VV.onAny v4 (gdK v4 false .off M n (fun j => v_fa v1 19 fun v => j v M n) fun v5 M n => gdK v4 false .off M n (fun j => ldV M v5 1 false fun _ v => j v M n) fun v6 M n => gdK v4 false .off M n (fun j => v_le (.i (.ofNat 0)) v6 fun v => j v M n) fun v7 M n => v_pick v4 (.bool true) v7 fun v8 => e.setK q4 v8 fun e => k e M n)
def R125_3 : RegF := fun a e M n k => e.getK q3 fun v0 => e.getK q2 fun v1 => v_fa v0 4 fun v2 => ldV M v2 5 true fun _ v3 => v_fa v1 10 fun v4 => ldV M v4 1 false fun _ v5 => callV a s182 [v3, v5] M n fun v6 M n => VV.onAny v6 (e.setK q5 v6 fun e => k e M n)
def R125_4 : RegF := fun a e M n k => e.getK q0 fun v0 => e.getK q1 fun v1 => e.getK q2 fun v2 => e.getK q5 fun v3 => (fun M0 => VV.onAny v0 (VV.onAny v1 (callV a s128 [v0, v1] M n fun v4 M n => VV.onAny v4 (gdK v4 true .off M n (fun j => ldV M v2 21 true fun _ v => j v M n) fun v5 M n => gdK v4 true .off M n (fun j => v_mv v0 fun v => j v M n) fun v6 M n => gdK v4 true .off M n (fun j => v_nck v6 fun v => j v M n) fun v7 M n => gdK v4 true .off M n (fun j => v_fa v7 0 fun v => j v M n) fun v8 M n => gdK v4 true .off M n (fun j => ldV M v8 1 false fun _ v => j v M n) fun v9 M n => gdK v4 true .off M n (fun j => v_mv v1 fun v => j v M n) fun v10 M n => gdK v4 true .off M n (fun j => v_ixS v9 v10 8 fun v => j v M n) fun v11 M n => gdK v4 true .off M n (fun j => ldV M v11 8 true fun _ v => j v M n) fun v12 M n => gdK v4 true .off M n (fun j => v_mv v3 fun v => j v M n) fun v13 M n => gdK v4 true .no M n (fun j => callV a s183 [v5, v12, v13] M n fun v M n => j v M n) fun v14 M n => v_pick v4 v14 (.bool false) fun v15 => VV.onAny v15 (gdK v15 false .off M n (fun j => v_mv v0 fun v => j v M n) fun v16 M n => gdK v15 false .off M n (fun j => v_nck v16 fun v => j v M n) fun v17 M n => gdK v15 false .off M n (fun j => v_fa v17 5 fun v => j v M n) fun v18 M n => gdK v15 false .off M n (fun j => ldV M v18 1 false fun _ v => j v M n) fun v19 M n => gdK v15 false .off M n (fun j => v_mv v1 fun v => j v M n) fun v20 M n => gdK v15 false .off M n (fun j => v_mv v3 fun v => j v M n) fun v21 M n => gdK v15 false .no M n (fun j => callV a s184 [v19, v20, v21] M n fun v M n => j v M n) fun v22 M n => v_pick v15 (.bool true) v22 fun v23 => VV.onAny v23 (Bool.rec false (e.setK q6 v23 fun e => k e M n) (keptB M0 M []))))))) M
def R125_5 : RegF := fun a e M n k => VV.onAny (.bool false) (e.setK q6 (.bool false) fun e => k e M n)
def S125 : List (P × I) := [(s0, q0), (s1, q1), (s6, q2), (s5, q3), (s25, q4), (s7, q5), (s4, q6)]
def G125 : F2 := .mk (fun a e M n k => R125_0 a e M n fun e M n => R125_1 a e M n fun e M n => R125_2 a e M n fun e M n => e.getK q4 fun v => v.onB fun c => Bool.rec (R125_3 a e M n fun e M n => R125_4 a e M n fun e M n => k .r e M n) (R125_5 a e M n fun e M n => k .r e M n) c) [.t q6] [q0, q1]
def R127_0 : RegF := fun a e M n k => e.getK q0 fun v0 => bxV 109 v0 M n fun v1 M n => alV 109 (rep 9 (.i (.ofNat 0)) ++ [(.bool false), (.i (.ofNat 0)), (.i (.ofNat 0)), (.i (.ofNat 0)), (.str []), (.bool false), (.i (.ofNat 0)), (.i (.ofNat 0)), (.i (.ofNat 0)), (.i (.ofNat 0)), (.i (.ofNat 0)), .nils]) M n fun v2 M n => e.setK q1 v1 fun e => e.setK q2 v2 fun e => k e M n
def R127_1 : RegF := fun a e M n k => e.getK q1 fun v0 => v_fa v0 20 fun v1 => ldV M v1 1 false fun _ v2 => callV a s174 [v2] M n fun v3 M n => v_fa v0 20 fun v4 => stV M v4 v3 1 fun M => k e M n
def R127_2 : RegF := fun a e M n k => e.getK q1 fun v0 => e.getK q2 fun v1 => ldV M v0 21 true fun _ v2 => stV M v1 v2 21 fun M => k e M n
def S127 : List (P × I) := [(s0, q0), (s1, q1), (s2, q2)]
def G127 : F2 := .mk (fun a e M n k => R127_0 a e M n fun e M n => R127_1 a e M n fun e M n => R127_2 a e M n fun e M n => k .r e M n) [.c q2 21 true] [q0]
def R128_0 : RegF := fun a e M n k => VV.onAny (.bool false) (e.setK q2 (.bool false) fun e => k e M n)
def R128_1 : RegF := fun a e M n k => e.getK q1 fun v0 => e.getK q0 fun v1 => VV.onAny v0 (VV.onAny v1 (v_nck v1 fun v2 => v_fa v2 0 fun v3 => ldV M v3 1 false fun _ v4 => v_lenS v4 fun v5 => v_lt v0 v5 fun v6 => VV.onAny v6 (e.setK q2 v6 fun e => k e M n)))
def S128 : List (P × I) := [(s0, q0), (s1, q1), (s4, q2)]
def G128 : F2 := .mk (fun a e M n k => R128_0 a e M n fun e M n => R128_1 a e M n fun e M n => k .r e M n) [.t q2] [q0, q1]
def R131_0 : RegF := fun a e M n k => e.getK q2 fun v0 => bxV 34 v0 M n fun v1 M n => e.setK q5 v1 fun e => k e M n
def R131_1 : RegF := fun a e M n k => e.getK q0 fun v0 => e.getK q1 fun v1 => VV.onAny v0 (v_nck v0 fun v2 => v_fa v2 2 fun v3 => ldV M v3 1 false fun _ v4 => VV.onAny v1 (v_ixS v4 v1 21 fun v5 => VV.onAny v5 (e.setK q3 v5 fun e => k e M n)))
def R131_2 : RegF := fun a e M n k => e.getK q3 fun v0 => VV.onAny v0 (v_nck v0 fun v1 => v_fa v1 8 fun v2 => ldV M v2 1 false fun _ v3 => v_sub v3 (.i (.ofNat 1)) fun v4 => v_nck v0 fun v5 => v_fa v5 8 fun v6 => stV M v6 v4 1 fun M => k e M n)
def R131_3 : RegF := fun a e M n k => e.getK q3 fun v0 => VV.onAny v0 (v_nck v0 fun v1 => v_fa v1 8 fun v2 => ldV M v2 1 false fun _ v3 => v_eq v3 (.i (.ofNat 0)) fun v4 => e.setK q6 v4 fun e => k e M n)
def R131_4 : RegF := fun a e M n k => e.getK q3 fun v0 => VV.onAny v0 (v_nck v0 fun v1 => v_fa v1 7 fun v2 => ldV M v2 1 false fun _ v3 => v_add v3 (.i (.ofNat 1)) fun v4 => v_nck v0 fun v5 => v_fa v5 7 fun v6 => stV M v6 v4 1 fun M => k e M n)
def R131_5 : RegF := fun a e M n k => e.getK q3 fun v0 => VV.onAny v0 (v_nck v0 fun v1 => v_fa v1 8 fun v2 => ldV M v2 1 false fun _ v3 => v_eq v3 (.i (.ofNat 0)) fun v4 => e.setK q4 v4 fun e => k e M n)
def R131_6 : RegF := fun a e M n k => e.getK q3 fun v0 => e.getK q5 fun v1 => VV.onAny v0 (v_fa v1 1 fun v2 => ldV M v2 1 false fun _ v3 => v_nck v0 fun v4 => v_fa v4 8 fun v5 => stV M v5 v3 1 fun M => k e M n)
def S131 : List (P × I) := [(s0, q0), (s1, q1), (s2, q2), (s6, q3), (s17, q4), (s5, q5), (s34, q6)]
def G131 : F2 := .mk (fun a e M n k => R131_0 a e M n fun e M n => R131_1 a e M n fun e M n => (fun (j0 : En → Mem → P → Bool) => R131_5 a e M n fun e M n => (fun (j2 : En → Mem → P → Bool) => e.getK q4 fun v => v.onB fun c => Bool.rec (j2 e M n) (R131_6 a e M n fun e M n => j2 e M n) c) fun e M n => j0 e M n) fun e M n => R131_2 a e M n fun e M n => R131_3 a e M n fun e M n => (fun (j1 : En → Mem → P → Bool) => e.getK q6 fun v => v.onB fun c => Bool.rec (j1 e M n) (R131_4 a e M n fun e M n => j1 e M n) c) fun e M n => k .n e M n) [] [q0, q1, q2]
def R133_0 : RegF := fun a e M n k => e.getK q2 fun v0 => bxV 34 v0 M n fun v1 M n => k e M n
def R133_1 : RegF := fun a e M n k => e.getK q0 fun v0 => e.getK q1 fun v1 => VV.onAny v0 (VV.onAny v1 (callV a s128 [v0, v1] M n fun v2 M n => v_not v2 fun v3 => e.setK q3 v3 fun e => k e M n))
def R133_2 : RegF := fun a e M n k => e.getK q0 fun v0 => e.getK q1 fun v1 => VV.onAny v0 (VV.onAny v0 (v_nck v0 fun v2 => v_fa v2 5 fun v3 => ldV M v3 1 false fun _ v4 => VV.onAny v1 (callV a s188 [v4, v1] M n fun v5 M n => callV a s187 [v0, v5] M n fun v6 M n => k e M n)))
def R133_3 : RegF := fun a e M n k => e.getK q0 fun v0 => e.getK q1 fun v1 => VV.onAny v0 (VV.onAny v1 (VV.onAny v0 (v_nck v0 fun v2 => v_fa v2 1 fun v3 => ldV M v3 1 false fun _ v4 => v_add v4 (.i (.ofNat 1)) fun v5 => callV a s189 [v0, v1, v5, (.bool false)] M n fun v6 M n => k e M n)))
def R133_4 : RegF := fun a e M n k => e.getK q0 fun v0 => e.getK q1 fun v1 => VV.onAny v0 (v_nck v0 fun v2 => v_fa v2 2 fun v3 => ldV M v3 1 false fun _ v4 => VV.onAny v1 (v_ixS v4 v1 21 fun v5 => v_fa v5 7 fun v6 => ldV M v6 1 false fun _ v7 => v_add v7 (.i (.ofNat 1)) fun v8 => v_ixS v4 v1 21 fun v9 => v_fa v9 7 fun v10 => stV M v10 v8 1 fun M => k e M n))
def S133 : List (P × I) := [(s0, q0), (s1, q1), (s2, q2), (s9, q3)]
def G133 : F2 := .mk (fun a e M n k => R133_0 a e M n fun e M n => R133_1 a e M n fun e M n => e.getK q3 fun v => v.onB fun c => Bool.rec (R133_2 a e M n fun e M n => R133_3 a e M n fun e M n => k .n e M n) (R133_4 a e M n fun e M n => k .r e M n) c) [] [q0, q1, q2]
def R134_0 : RegF := fun a e M n k => e.getK q2 fun v0 => bxV 34 v0 M n fun v1 M n => e.setK q3 v1 fun e => k e M n
def R134_1 : RegF := fun a e M n k => VV.onAny (.i (.ofNat 6)) (e.setK q5 (.i (.ofNat 6)) fun e => k e M n)
def R134_2 : RegF := fun a e M n k => e.getK q0 fun v0 => e.getK q1 fun v1 => e.getK q3 fun v2 => e.getK q5 fun v3 => (fun M0 => VV.onAny v0 (VV.onAny v1 (ldV M v2 9 true fun bv4 v4 => VV.onAny v3 (callV a s191 [v3] M n fun v5 M n => callV a s190 [v0, v1, v4, v5] M n fun v6 M n => Bool.rec false (k e M n) (keptB M0 M (bv4 :: [])))))) M
def R134_3 : RegF := fun a e M n k => e.getK q0 fun v0 => e.getK q1 fun v1 => e.getK q3 fun v2 => VV.onAny v0 (VV.onAny v1 (v_fa v2 1 fun v3 => ldV M v3 1 false fun _ v4 => callV a s178 [v0, v1, v4] M n fun v5 M n => e.setK q4 v5 fun e => k e M n))
def R134_4 : RegF := fun a e M n k => e.getK q0 fun v0 => e.getK q1 fun v1 => e.getK q3 fun v2 => (fun M0 => VV.onAny v0 (v_nck v0 fun v3 => v_fa v3 5 fun v4 => ldV M v4 1 false fun _ v5 => VV.onAny v1 (v_fa v2 1 fun v6 => ldV M v6 1 false fun _ v7 => callV a s124 [v5, v1, v7] M n fun v8 M n => VV.onAny v8 (v_ext v8 0 fun v9 => v_ext v8 1 fun v10 => VV.onAny v10 (Bool.rec false (e.setK q5 v10 fun e => k e M n) (keptB M0 M [])))))) M
def S134 : List (P × I) := [(s0, q0), (s1, q1), (s2, q2), (s5, q3), (s11, q4), (s6, q5)]
def G134 : F2 := .mk (fun a e M n k => R134_0 a e M n fun e M n => R134_1 a e M n fun e M n => (fun (j0 : En → Mem → P → Bool) => R134_3 a e M n fun e M n => (fun (j1 : En → Mem → P → Bool) => e.getK q4 fun v => v.onB fun c => Bool.rec (j1 e M n) (R134_4 a e M n fun e M n => j1 e M n) c) fun e M n => j0 e M n) fun e M n => R134_2 a e M n fun e M n => k .n e M n) [] [q0, q1, q2]
def R135_0 : RegF := fun a e M n k => e.getK q2 fun v0 => bxV 34 v0 M n fun v1 M n => e.setK q3 v1 fun e => k e M n
def R135_1 : RegF := fun a e M n k => e.getK q0 fun v0 => e.getK q1 fun v1 => e.getK q3 fun v2 => (fun M0 => VV.onAny v0 (v_nck v0 fun v3 => v_fa v3 5 fun v4 => ldV M v4 1 false fun _ v5 => VV.onAny v1 (v_fa v2 1 fun v6 => ldV M v6 1 false fun _ v7 => callV a s192 [v5, v1, v7] M n fun v8 M n => VV.onAny v8 (v_ext v8 0 fun v9 => v_ext v8 1 fun v10 => VV.onAny v9 (VV.onAny v10 (Bool.rec false (e.setK q4 v9 fun e => e.setK q5 v10 fun e => k e M n) (keptB M0 M []))))))) M
def R135_2 : RegF := fun a e M n k => e.getK q0 fun v0 => e.getK q4 fun v1 => VV.onAny v0 (VV.onAny v1 (callV a s187 [v0, v1] M n fun v2 M n => k e M n))
def R135_3 : RegF := fun a e M n k => e.getK q0 fun v0 => e.getK q1 fun v1 => e.getK q3 fun v2 => e.getK q5 fun v3 => (fun M0 => VV.onAny v0 (VV.onAny v1 (ldV M v2 9 true fun bv4 v4 => VV.onAny v3 (callV a s191 [v3] M n fun v5 M n => callV a s190 [v0, v1, v4, v5] M n fun v6 M n => Bool.rec false (k e M n) (keptB M0 M (bv4 :: [])))))) M
def S135 : List (P × I) := [(s0, q0), (s1, q1), (s2, q2), (s5, q3), (s6, q4), (s7, q5)]
def G135 : F2 := .mk (fun a e M n k => R135_0 a e M n fun e M n => R135_1 a e M n fun e M n => R135_2 a e M n fun e M n => R135_3 a e M n fun e M n => k .n e M n) [] [q0, q1, q2]
def R139_0 : RegF := fun a e M n k => e.getK q2 fun v0 => bxV 34 v0 M n fun v1 M n => e.setK q4 v1 fun e => k e M n
def R139_1 : RegF := fun a e M n k => e.getK q0 fun v0 => e.getK q1 fun v1 => VV.onAny v0 (v_nck v0 fun v2 => v_fa v2 2 fun v3 => ldV M v3 1 false fun _ v4 => VV.onAny v1 (v_ixS v4 v1 21 fun v5 => VV.onAny v5 (e.setK q3 v5 fun e => k e M n)))
def R139_2 : RegF := fun a e M n k => e.getK q3 fun v0 => VV.onAny v0 (v_nck v0 fun v1 => v_fa v1 8 fun v2 => ldV M v2 1 false fun _ v3 => v_sub v3 (.i (.ofNat 1)) fun v4 => v_nck v0 fun v5 => v_fa v5 8 fun v6 => stV M v6 v4 1 fun M => k e M n)
def R139_3 : RegF := fun a e M n k => e.getK q3 fun v0 => VV.onAny v0 (VV.onAny v0 (v_nck v0 fun v1 => v_fa v1 8 fun v2 => ldV M v2 1 false fun _ v3 => v_lt (.i (.ofNat 0)) v3 fun v4 => v_nck v0 fun v5 => v_fa v5 9 fun v6 => stV M v6 v4 1 fun M => k e M n))
def R139_4 : RegF := fun a e M n k => e.getK q3 fun v0 => VV.onAny v0 (v_nck v0 fun v1 => v_fa v1 9 fun v2 => ldV M v2 1 false fun _ v3 => v_not v3 fun v4 => e.setK q6 v4 fun e => k e M n)
def R139_5 : RegF := fun a e M n k => e.getK q0 fun v0 => e.getK q1 fun v1 => e.getK q4 fun v2 => VV.onAny v0 (VV.onAny v1 (ldV M v2 9 true fun _ v3 => callV a s198 [v0, v1, v3] M n fun v4 M n => k e M n))
def R139_6 : RegF := fun a e M n k => e.getK q3 fun v0 => VV.onAny v0 (v_nck v0 fun v1 => v_fa v1 9 fun v2 => ldV M v2 1 false fun _ v3 => v_not v3 fun v4 => e.setK q5 v4 fun e => k e M n)
def R139_7 : RegF := fun a e M n k => e.getK q3 fun v0 => e.getK q4 fun v1 => (fun M0 => VV.onAny v0 (v_fa v1 4 fun v2 => ldV M v2 5 true fun _ v3 => VV.onAny v0 (v_nck v0 fun v4 => v_fa v4 10 fun v5 => ldV M v5 1 false fun _ v6 => callV a s182 [v3, v6] M n fun v7 M n => v_nck v0 fun v8 => v_fa v8 8 fun v9 => Bool.rec false (stV M v9 v7 1 fun M => k e M n) (keptB M0 M [])))) M
def S139 : List (P × I) := [(s0, q0), (s1, q1), (s2, q2), (s6, q3), (s5, q4), (s17, q5), (s47, q6)]
def G139 : F2 := .mk (fun a e M n k => R139_0 a e M n fun e M n => R139_1 a e M n fun e M n => (fun (j0 : En → Mem → P → Bool) => R139_6 a e M n fun e M n => (fun (j2 : En → Mem → P → Bool) => e.getK q5 fun v => v.onB fun c => Bool.rec (j2 e M n) (R139_7 a e M n fun e M n => j2 e M n) c) fun e M n => j0 e M n) fun e M n => R139_2 a e M n fun e M n => R139_3 a e M n fun e M n => R139_4 a e M n fun e M n => (fun (j1 : En → Mem → P → Bool) => e.getK q6 fun v => v.onB fun c => Bool.rec (j1 e M n) (R139_5 a e M n fun e M n => j1 e M n) c) fun e M n => k .n e M n) [] [q0, q1, q2]
def R141_0 : RegF := fun a e M n k => VV.onAny (.bool false) (e.setK q2 (.bool false) fun e => k e M n)
def R141_1 : RegF := fun a e M n k => e.getK q0 fun v0 => e.getK q1 fun v1 => VV.onAny v0 (VV.onAny v1 (callV a s199 [v0, v1] M n fun v2 M n => v_le (.i (.ofNat 0)) v2 fun v3 => VV.onAny v3 (e.setK q2 v3 fun e => k e M n)))
def S141 : List (P × I) := [(s0, q0), (s1, q1), (s4, q2)]
def G141 : F2 := .mk (fun a e M n k => R141_0 a e M n fun e M n => R141_1 a e M n fun e M n => k .r e M n) [.t q2] [q0, q1]
def R142_0 : RegF := fun a e M n k => e.getK q0 fun v0 => bxV 228 v0 M n fun v1 M n => VV.onAny (.bool false) (e.setK q2 v1 fun e => e.setK q3 (.bool false) fun e => k e M n)
def R142_1 : RegF := fun a e M n k => e.getK q2 fun v0 => e.getK q1 fun v1 => (fun M0 => v_fa v0 1 fun v2 => ldV M v2 1 false fun bv3 v3 => ldV M v1 1 false fun _ v4 => v_nck v4 fun v5 => v_fa v5 4 fun v6 => ldV M v6 1 false fun _ v7 => v_fa v0 0 fun v8 => ldV M v8 1 false fun _ v9 => callV a s143 [v7, v9] M n fun v10 M n => v_le v10 v3 fun v11 => VV.onAny v11 (Bool.rec false (e.setK q3 v11 fun e => k e M n) (keptB M0 M (bv3 :: [])))) M
def S142 : List (P × I) := [(s0, q0), (s1, q1), (s2, q2), (s3, q3)]
def G142 : F2 := .mk (fun a e M n k => R142_0 a e M n fun e M n => R142_1 a e M n fun e M n => k .r e M n) [.t q3] [q0, q1]
def R143_0 : RegF := fun a e M n k => VV.onAny (.i (.ofNat 0)) (e.setK q2 (.i (.ofNat 0)) fun e => k e M n)
def R143_1 : RegF := fun a e M n k => e.getK q0 fun v0 => e.getK q1 fun v1 => VV.onAny v0 (VV.onAny v1 (callV a s200 [v0, v1] M n fun v2 M n => v_fd v2 1 1 false fun v3 => VV.onAny v3 (e.setK q2 v3 fun e => k e M n)))
def S143 : List (P × I) := [(s0, q0), (s1, q1), (s4, q2)]
def G143 : F2 := .mk (fun a e M n k => R143_0 a e M n fun e M n => R143_1 a e M n fun e M n => k .r e M n) [.t q2] [q0, q1]
def R144_0 : RegF := fun a e M n k => VV.onAny (.i (.ofNat 0)) (e.setK q7 (.i (.ofNat 0)) fun e => k e M n)
def R144_1 : RegF := fun a e M n k => e.getK q3 fun v0 => e.getK q2 fun v1 => e.getK q0 fun v2 => VV.onAny v0 (v_lt v0 (.i (.ofNat 0)) fun v3 => VV.onAny v3 (gdK v3 false .off M n (fun j => v_mv v0 fun v => j v M n) fun v4 M n => gdK v3 false .off M n (fun j => v_mv v1 fun v => j v M n) fun v5 M n => gdK v3 false .off M n (fun j => v_le v5 v4 fun v => j v M n) fun v6 M n => v_pick v3 (.bool true) v6 fun v7 => VV.onAny v7 (gdK v7 false .off M n (fun j => v_mv v0 fun v => j v M n) fun v8 M n => gdK v7 false .off M n (fun j => v_mv v2 fun v => j v M n) fun v9 M n => gdK v7 false .off M n (fun j => v_lenS v9 fun v => j v M n) fun v10 M n => gdK v7 false .off M n (fun j => v_le v10 v8 fun v => j v M n) fun v11 M n => v_pick v7 (.bool true) v11 fun v12 => e.setK q5 v12 fun e => k e M n)))
def R144_2 : RegF := fun a e M n k => e.getK q0 fun v0 => e.getK q3 fun v1 => VV.onAny v0 (VV.onAny v1 (v_ixS v0 v1 1 fun v2 => ldV M v2 1 false fun _ v3 => VV.onAny v3 (e.setK q4 v3 fun e => k e M n)))
def R144_3 : RegF := fun a e M n k => e.getK q4 fun v0 => e.getK q1 fun v1 => e.getK q2 fun v2 => VV.onAny v0 (v_lt v0 (.i (.ofNat 0)) fun v3 => VV.onAny v3 (gdK v3 false .off M n (fun j => v_mv v0 fun v => j v M n) fun v4 M n => gdK v3 false .off M n (fun j => v_mv v1 fun v => j v M n) fun v5 M n => gdK v3 false .off M n (fun j => v_lenS v5 fun v => j v M n) fun v6 M n => gdK v3 false .off M n (fun j => v_le v6 v4 fun v => j v M n) fun v7 M n => v_pick v3 (.bool true) v7 fun v8 => VV.onAny v8 (gdK v8 false .off M n (fun j => v_mv v1 fun v => j v M n) fun v9 M n => gdK v8 false .off M n (fun j => v_mv v0 fun v => j v M n) fun v10 M n => gdK v8 false .off M n (fun j => v_ixS v9 v10 1 fun v => j v M n) fun v11 M n => gdK v8 false .off M n (fun j => ldV M v11 1 false fun _ v => j v M n) fun v12 M n => gdK v8 false .off M n (fun j => v_lt v12 (.i (.ofNat 0)) fun v => j v M n) fun v13 M n => v_pick v8 (.bool true) v13 fun v14 => VV.onAny v14 (gdK v14 false .off M n (fun j => v_mv v1 fun v => j v M n) fun v15 M n => gdK v14 false .off M n (fun j => v_mv v0 fun v => j v M n) fun v16 M n => gdK v14 false .off M n (fun j => v_ixS v15 v16 1 fun v => j v M n) fun v17 M n => gdK v14 false .off M n (fun j => ldV M v17 1 false fun _ v => j v M n) fun v18 M n => gdK v14 false .off M n (fun j => v_mv v2 fun v => j v M n) fun v19 M n => gdK v14 false .off M n (fun j => v_le v19 v18 fun v => j v M n) fun v20 M n => v_pick v14 (.bool true) v20 fun v21 => e.setK q6 v21 fun e => k e M n))))
def R144_4 : RegF := fun a e M n k => e.getK q1 fun v0 => e.getK q4 fun v1 => VV.onAny v0 (VV.onAny v1 (v_ixS v0 v1 1 fun v2 => ldV M v2 1 false fun _ v3 => VV.onAny v3 (e.setK q7 v3 fun e => k e M n)))
def R144_5 : RegF := fun a e M n k => VV.onAny (.i (.negSucc 0)) (e.setK q7 (.i (.negSucc 0)) fun e => k e M n)
def R144_6 : RegF := fun a e M n k => VV.onAny (.i (.negSucc 0)) (e.setK q7 (.i (.negSucc 0)) fun e => k e M n)
def S144 : List (P × I) := [(s0, q0), (s1, q1), (s2, q2), (s3, q3), (s9, q4), (s22, q5), (s49, q6), (s8, q7)]
def G144 : F2 := .mk (fun a e M n k => R144_0 a e M n fun e M n => R144_1 a e M n fun e M n => e.getK q5 fun v => v.onB fun c => Bool.rec (R144_2 a e M n fun e M n => R144_3 a e M n fun e M n => e.getK q6 fun v => v.onB fun c => Bool.rec (R144_4 a e M n fun e M n => k .r e M n) (R144_5 a e M n fun e M n => k .r e M n) c) (R144_6 a e M n fun e M n => k .r e M n) c) [.t q7] [q0, q1, q2, q3]
def R145_0 : RegF := fun a e M n k => e.getK q1 fun v0 => bxV 73 v0 M n fun v1 M n => alV 73 [(.i (.ofNat 0)), (.i (.ofNat 0)), (.i (.ofNat 0))] M n fun v2 M n => e.setK q4 v1 fun e => e.setK q6 v2 fun e => k e M n
def R145_1 : RegF := fun a e M n k => e.getK q4 fun v0 => e.getK q6 fun v1 => ldV M v0 3 true fun _ v2 => stV M v1 v2 3 fun M => k e M n
def R145_2 : RegF := fun a e M n k => e.getK q2 fun v0 => VV.onAny v0 (v_lenS v0 fun v1 => VV.onAny (.i (.ofNat 0)) (e.setK q9 v0 fun e => e.setK q7 v1 fun e => e.setK q3 (.i (.ofNat 0)) fun e => k e M n))
def R145_3 : RegF := fun a e M n k => e.getK q3 fun v0 => e.getK q7 fun v1 => v_lt v0 v1 fun v2 => e.setK q8 v2 fun e => k e M n
def R145_4 : RegF := fun a e M n k => e.getK q3 fun v0 => v_add v0 (.i (.ofNat 1)) fun v1 => VV.onAny v1 (e.setK q3 v1 fun e => k e M n)
def R145_5 : RegF := fun a e M n k => e.getK q9 fun v0 => e.getK q3 fun v1 => v_ixS v0 v1 3 fun v2 => ldV M v2 3 true fun _ v3 => alV 73 [(.i (.ofNat 0)), (.i (.ofNat 0)), (.i (.ofNat 0))] M n fun v4 M n => stV M v4 v3 3 fun M => e.setK q5 v4 fun e => k e M n
def R145_6 : RegF := fun a e M n k => e.getK q0 fun v0 => e.getK q5 fun v1 => e.getK q4 fun v2 => VV.onAny v0 (ldV M v1 3 true fun _ v3 => ldV M v2 3 true fun _ v4 => cvV a v0 [v3, v4] M n fun v5 M n => v_lt (.i (.ofNat 0)) v5 fun v6 => e.setK q10 v6 fun e => k e M n)
def R145_7 : RegF := fun a e M n k => e.getK q5 fun v0 => e.getK q4 fun v1 => ldV M v0 3 true fun _ v2 => stV M v1 v2 3 fun M => k e M n
def S145 : List (P × I) := [(s0, q0), (s1, q1), (s2, q2), (s11, q3), (s4, q4), (s8, q5), (s6, q6), (s10, q7), (s12, q8), (s9, q9), (s19, q10)]
def G145 : F2 := .mk (fun a e M n k => R145_0 a e M n fun e M n => (fun (j0 : En → Mem → P → Bool) => R145_2 a e M n fun e M n => (fun (j1 : En → Mem → P → Bool) => loopK (fun a e M n k => R145_3 a e M n fun e M n => e.getK q8 fun v => v.onB fun c => Bool.rec (k (.x 0) e M n) ((fun (j2 : En → Mem → P → Bool) => (fun (j3 : En → Mem → P → Bool) => R145_5 a e M n fun e M n => R145_6 a e M n fun e M n => (fun (j4 : En → Mem → P → Bool) => e.getK q10 fun v => v.onB fun c => Bool.rec (j4 e M n) (R145_7 a e M n fun e M n => j4 e M n) c) fun e M n => j3 e M n) fun e M n => j2 e M n) fun e M n => R145_4 a e M n fun e M n => k .n e M n) c) a e M n fun ex e M n => Ex.rec (j1 e M n) (k .r e M n) (fun id => Bool.rec (k (.x id) e M n) (j1 e M n) (Nat.beq id 0)) ex) fun e M n => j0 e M n) fun e M n => R145_1 a e M n fun e M n => k .r e M n) [.c q6 3 true] [q0, q1, q2]
def R146_0 : RegF := fun a e M n k => e.getK q0 fun v0 => e.getK q1 fun v1 => bxV 73 v0 M n fun v2 M n => bxV 73 v1 M n fun v3 M n => VV.onAny (.i (.ofNat 0)) (e.setK q2 v2 fun e => e.setK q3 v3 fun e => e.setK q7 (.i (.ofNat 0)) fun e => k e M n)
def R146_1 : RegF := fun a e M n k => e.getK q2 fun v0 => e.getK q3 fun v1 => v_fa v0 0 fun v2 => ldV M v2 1 false fun _ v3 => v_fa v1 0 fun v4 => ldV M v4 1 false fun _ v5 => v_ne v3 v5 fun v6 => e.setK q4 v6 fun e => k e M n
def R146_2 : RegF := fun a e M n k => VV.onAny (.fn s202 [] []) (e.setK q6 (.fn s202 [] []) fun e => k e M n)
def R146_3 : RegF := fun a e M n k => e.getK q6 fun v0 => e.getK q2 fun v1 => e.getK q3 fun v2 => VV.onAny v0 (ldV M v1 3 true fun _ v3 => ldV M v2 3 true fun _ v4 => cvV a v0 [v3, v4] M n fun v5 M n => VV.onAny v5 (e.setK q7 v5 fun e => k e M n))
def R146_4 : RegF := fun a e M n k => e.getK q2 fun v0 => v_fa v0 0 fun v1 => ldV M v1 1 false fun _ v2 => v_eq v2 (.i (.ofNat 1)) fun v3 => e.setK q5 v3 fun e => k e M n
def R146_5 : RegF := fun a e M n k => VV.onAny (.fn s203 [] []) (e.setK q6 (.fn s203 [] []) fun e => k e M n)
def R146_6 : RegF := fun a e M n k => e.getK q2 fun v0 => e.getK q3 fun v1 => v_fa v0 0 fun v2 => ldV M v2 1 false fun _ v3 => v_fa v1 0 fun v4 => ldV M v4 1 false fun _ v5 => callV a s201 [v3, v5] M n fun v6 M n => VV.onAny v6 (e.setK q7 v6 fun e => k e M n)
def S146 : List (P × I) := [(s0, q0), (s1, q1), (s2, q2), (s3, q3), (s10, q4), (s18, q5), (s5, q6), (s4, q7)]
def G146 : F2 := .mk (fun a e M n k => R146_0 a e M n fun e M n => R146_1 a e M n fun e M n => e.getK q4 fun v => v.onB fun c => Bool.rec (R146_2 a e M n fun e M n => (fun (j0 : En → Mem → P → Bool) => R146_4 a e M n fun e M n => (fun (j1 : En → Mem → P → Bool) => e.getK q5 fun v => v.onB fun c => Bool.rec (j1 e M n) (R146_5 a e M n fun e M n => j1 e M n) c) fun e M n => j0 e M n) fun e M n => R146_3 a e M n fun e M n => k .r e M n) (R146_6 a e M n fun e M n => k .r e M n) c) [.t q7] [q0, q1]
def R148_0 : RegF := fun a e M n k => VV.onAny (.i (.ofNat 0)) (e.setK q7 (.i (.ofNat 0)) fun e => k e M n)
def R148_1 : RegF := fun a e M n k => VV.onAny (.i (.negSucc 0)) (e.setK q7 (.i (.negSucc 0)) fun e => k e M n)
def R148_2 : RegF := fun a e M n k => e.getK q0 fun v0 => VV.onAny v0 (v_lenS v0 fun v1 => VV.onAny (.i (.ofNat 0)) (e.setK q4 v1 fun e => e.setK q2 (.i (.ofNat 0)) fun e => k e M n))
def R148_3 : RegF := fun a e M n k => e.getK q2 fun v0 => e.getK q4 fun v1 => v_lt v0 v1 fun v2 => e.setK q5 v2 fun e => k e M n
def R148_4 : RegF := fun a e M n k => e.getK q2 fun v0 => VV.onAny v0 (VV.onAny v0 (e.setK q3 v0 fun e => k e M n))
def R148_5 : RegF := fun a e M n k => e.getK q1 fun v0 => e.getK q0 fun v1 => e.getK q3 fun v2 => VV.onAny v0 (VV.onAny v1 (VV.onAny v2 (v_ixS v1 v2 1 fun v3 => ldV M v3 1 false fun _ v4 => v_eq v0 v4 fun v5 => e.setK q6 v5 fun e => k e M n)))
def R148_6 : RegF := fun a e M n k => e.getK q2 fun v0 => v_add v0 (.i (.ofNat 1)) fun v1 => VV.onAny v1 (e.setK q2 v1 fun e => k e M n)
def R148_7 : RegF := fun a e M n k => e.getK q3 fun v0 => VV.onAny v0 (VV.onAny v0 (e.setK q7 v0 fun e => k e M n))
def S148 : List (P × I) := [(s0, q0), (s1, q1), (s8, q2), (s5, q3), (s7, q4), (s9, q5), (s16, q6), (s4, q7)]
def G148 : F2 := .mk (fun a e M n k => R148_0 a e M n fun e M n => (fun (j0 : En → Mem → P → Bool) => R148_2 a e M n fun e M n => (fun (j1 : En → Mem → P → Bool) => loopK (fun a e M n k => R148_3 a e M n fun e M n => e.getK q5 fun v => v.onB fun c => Bool.rec (k (.x 0) e M n) (R148_4 a e M n fun e M n => R148_5 a e M n fun e M n => e.getK q6 fun v => v.onB fun c => Bool.rec (R148_6 a e M n fun e M n => k .n e M n) (R148_7 a e M n fun e M n => k .r e M n) c) c) a e M n fun ex e M n => Ex.rec (j1 e M n) (k .r e M n) (fun id => Bool.rec (k (.x id) e M n) (j1 e M n) (Nat.beq id 0)) ex) fun e M n => j0 e M n) fun e M n => R148_1 a e M n fun e M n => k .r e M n) [.t q7] [q0, q1]
def R150_0 : RegF := fun a e M n k => VV.onAny (.bool false) (e.setK q2 (.bool false) fun e => k e M n)
def R150_1 : RegF := fun a e M n k => e.getK q0 fun v0 => e.getK q1 fun v1 => VV.onAny v0 (v_fa v1 2 fun v2 => ldV M v2 1 false fun _ v3 => v_lenS v3 fun v4 => v_sub v4 (.i (.ofNat 1)) fun v5 => callV a s91 [v0, (.i (.ofNat 0)), v5] M n fun v6 M n => v_not v6 fun v7 => VV.onAny v7 (e.setK q2 v7 fun e => k e M n))
def S150 : List (P × I) := [(s0, q0), (s1, q1), (s3, q2)]
def G150 : F2 := .mk (fun a e M n k => R150_0 a e M n fun e M n => R150_1 a e M n fun e M n => k .r e M n) [.t q2] [q0, q1]
def R151_0 : RegF := fun a e M n k => VV.onAny (.i (.ofNat 0)) (e.setK q7 (.i (.ofNat 0)) fun e => k e M n)
def R151_1 : RegF := fun a e M n k => VV.onAny (.i (.negSucc 0)) (e.setK q7 (.i (.negSucc 0)) fun e => k e M n)
def R151_2 : RegF := fun a e M n k => e.getK q0 fun v0 => VV.onAny v0 (v_lenS v0 fun v1 => VV.onAny (.i (.ofNat 0)) (e.setK q4 v1 fun e => e.setK q2 (.i (.ofNat 0)) fun e => k e M n))
def R151_3 : RegF := fun a e M n k => e.getK q2 fun v0 => e.getK q4 fun v1 => v_lt v0 v1 fun v2 => e.setK q5 v2 fun e => k e M n
def R151_4 : RegF := fun a e M n k => e.getK q2 fun v0 => VV.onAny v0 (VV.onAny v0 (e.setK q3 v0 fun e => k e M n))
def R151_5 : RegF := fun a e M n k => e.getK q1 fun v0 => e.getK q0 fun v1 => e.getK q3 fun v2 => VV.onAny v0 (VV.onAny v1 (VV.onAny v2 (v_ixS v1 v2 1 fun v3 => ldV M v3 1 false fun _ v4 => cvV a v0 [v4] M n fun v5 M n => e.setK q6 v5 fun e => k e M n)))
def R151_6 : RegF := fun a e M n k => e.getK q2 fun v0 => v_add v0 (.i (.ofNat 1)) fun v1 => VV.onAny v1 (e.setK q2 v1 fun e => k e M n)
def R151_7 : RegF := fun a e M n k => e.getK q3 fun v0 => VV.onAny v0 (VV.onAny v0 (e.setK q7 v0 fun e => k e M n))
def S151 : List (P × I) := [(s0, q0), (s1, q1), (s8, q2), (s5, q3), (s7, q4), (s9, q5), (s16, q6), (s4, q7)]
def G151 : F2 := .mk (fun a e M n k => R151_0 a e M n fun e M n => (fun (j0 : En → Mem → P → Bool) => R151_2 a e M n fun e M n => (fun (j1 : En → Mem → P → Bool) => loopK (fun a e M n k => R151_3 a e M n fun e M n => e.getK q5 fun v => v.onB fun c => Bool.rec (k (.x 0) e M n) (R151_4 a e M n fun e M n => R151_5 a e M n fun e M n => e.getK q6 fun v => v.onB fun c => Bool.rec (R151_6 a e M n fun e M n => k .n e M n) (R151_7 a e M n fun e M n => k .r e M n) c) c) a e M n fun ex e M n => Ex.rec (j1 e M n) (k .r e M n) (fun id => Bool.rec (k (.x id) e M n) (j1 e M n) (Nat.beq id 0)) ex) fun e M n => j0 e M n) fun e M n => R151_1 a e M n fun e M n => k .r e M n) [.t q7] [q0, q1]
def R152_0 : RegF := fun a e M n k => VV.onAny (.nilf) (e.setK q9 (.nilf) fun e => k e M n)
def R152_1 : RegF := fun a e M n k => e.getK q0 fun v0 => VV.onAny v0 (e.setK q1 v0 fun e => k e M n)
def R152_2 : RegF := fun a e M n k => e.getK q1 fun v0 => v_eq v0 (.i (.ofNat 0)) fun v1 => VV.onAny v1 (e.setK q2 v1 fun e => k e M n)
def R152_3 : RegF := fun a e M n k => e.getK q1 fun v0 => v_eq v0 (.i (.ofNat 4)) fun v1 => VV.onAny v1 (e.setK q2 v1 fun e => k e M n)
def R152_4 : RegF := fun a e M n k => e.getK q1 fun v0 => v_eq v0 (.i (.ofNat 6)) fun v1 => VV.onAny v1 (e.setK q2 v1 fun e => k e M n)
def R152_5 : RegF := fun a e M n k => VV.onAny (.fn s204 [] []) (e.setK q9 (.fn s204 [] []) fun e => k e M n)
def R152_6 : RegF := fun a e M n k => e.getK q1 fun v0 => v_eq v0 (.i (.ofNat 1)) fun v1 => VV.onAny v1 (e.setK q3 v1 fun e => k e M n)
def R152_7 : RegF := fun a e M n k => e.getK q1 fun v0 => v_eq v0 (.i (.ofNat 7)) fun v1 => VV.onAny v1 (e.setK q3 v1 fun e => k e M n)
def R152_8 : RegF := fun a e M n k => VV.onAny (.fn s205 [] []) (e.setK q9 (.fn s205 [] []) fun e => k e M n)
def R152_9 : RegF := fun a e M n k => e.getK q1 fun v0 => v_eq v0 (.i (.ofNat 2)) fun v1 => VV.onAny v1 (e.setK q4 v1 fun e => k e M n)
def R152_10 : RegF := fun a e M n k => e.getK q1 fun v0 => v_eq v0 (.i (.ofNat 3)) fun v1 => VV.onAny v1 (e.setK q4 v1 fun e => k e M n)
def R152_11 : RegF := fun a e M n k => VV.onAny (.fn s206 [] []) (e.setK q9 (.fn s206 [] []) fun e => k e M n)
def R152_12 : RegF := fun a e M n k => e.getK q1 fun v0 => v_eq v0 (.i (.ofNat 5)) fun v1 => VV.onAny v1 (e.setK q5 v1 fun e => k e M n)
def R152_13 : RegF := fun a e M n k => VV.onAny (.fn s207 [] []) (e.setK q9 (.fn s207 [] []) fun e => k e M n)
def R152_14 : RegF := fun a e M n k => e.getK q1 fun v0 => v_eq v0 (.i (.ofNat 8)) fun v1 => VV.onAny v1 (e.setK q6 v1 fun e => k e M n)
def R152_15 : RegF := fun a e M n k => VV.onAny (.fn s208 [] []) (e.setK q9 (.fn s208 [] []) fun e => k e M n)
def R152_16 : RegF := fun a e M n k => e.getK q1 fun v0 => v_eq v0 (.i (.ofNat 9)) fun v1 => VV.onAny v1 (e.setK q7 v1 fun e => k e M n)
def R152_17 : RegF := fun a e M n k => VV.onAny (.fn s209 [] []) (e.setK q9 (.fn s209 [] []) fun e => k e M n)
def R152_18 : RegF := fun a e M n k => e.getK q1 fun v0 => v_eq v0 (.i (.ofNat 10)) fun v1 => VV.onAny v1 (e.setK q8 v1 fun e => k e M n)
def R152_19 : RegF := fun a e M n k => VV.onAny (.fn s210 [] []) (e.setK q9 (.fn s210 [] []) fun e => k e M n)
def R152_20 : RegF := fun a e M n k => VV.onAny (.nilf) (e.setK q9 (.nilf) fun e => k e M n)
def S152 : List (P × I) := [(s0, q0), (s3, q1), (s4, q2), (s8, q3), (s11, q4), (s14, q5), (s16, q6), (s18, q7), (s20, q8), (s2, q9)]
def G152 : F2 := .mk ((c_seq (c_fn R152_0) (c_seq (c_seq (c_fn R152_1) (c_blk 0 (c_seq (c_seq (c_fn R152_2) (c_cond (.t q2) c_skip (c_seq (c_fn R152_3) (c_cond (.t q2) c_skip (c_fn R152_4))))) (c_cond (.t q2) (c_seq (c_fn R152_5) c_ret) (c_seq (c_seq (c_fn R152_6) (c_cond (.t q3) c_skip (c_fn R152_7))) (c_cond (.t q3) (c_seq (c_fn R152_8) c_ret) (c_seq (c_seq (c_fn R152_9) (c_cond (.t q4) c_skip (c_fn R152_10))) (c_cond (.t q4) (c_seq (c_fn R152_11) c_ret) (c_seq (c_fn R152_12) (c_cond (.t q5) (c_seq (c_fn R152_13) c_ret) (c_seq (c_fn R152_14) (c_cond (.t q6) (c_seq (c_fn R152_15) c_ret) (c_seq (c_fn R152_16) (c_cond (.t q7) (c_seq (c_fn R152_17) c_ret) (c_seq (c_fn R152_18) (c_cond (.t q8) (c_seq (c_fn R152_19) c_ret) c_skip)))))))))))))))) (c_seq (c_fn R152_20) c_ret)))) [.t q9] [q0]
def R153_0 : RegF := fun a e M n k => VV.onAny (.i (.ofNat 0)) (e.setK q7 (.i (.ofNat 0)) fun e => k e M n)
def R153_1 : RegF := fun a e M n k => VV.onAny (.i (.negSucc 0)) (e.setK q7 (.i (.negSucc 0)) fun e => k e M n)
def R153_2 : RegF := fun a e M n k => e.getK q0 fun v0 => VV.onAny v0 (v_lenS v0 fun v1 => VV.onAny (.i (.ofNat 0)) (e.setK q4 v1 fun e => e.setK q2 (.i (.ofNat 0)) fun e => k e M n))
def R153_3 : RegF := fun a e M n k => e.getK q2 fun v0 => e.getK q4 fun v1 => v_lt v0 v1 fun v2 => e.setK q5 v2 fun e => k e M n
def R153_4 : RegF := fun a e M n k => e.getK q2 fun v0 => VV.onAny v0 (VV.onAny v0 (e.setK q3 v0 fun e => k e M n))
def R153_5 : RegF := fun a e M n k => e.getK q1 fun v0 => e.getK q0 fun v1 => e.getK q3 fun v2 => VV.onAny v0 (VV.onAny v1 (VV.onAny v2 (v_ixS v1 v2 2 fun v3 => ldV M v3 2 true fun _ v4 => cvV a v0 [v4] M n fun v5 M n => e.setK q6 v5 fun e => k e M n)))
def R153_6 : RegF := fun a e M n k => e.getK q2 fun v0 => v_add v0 (.i (.ofNat 1)) fun v1 => VV.onAny v1 (e.setK q2 v1 fun e => k e M n)
def R153_7 : RegF := fun a e M n k => e.getK q3 fun v0 => VV.onAny v0 (VV.onAny v0 (e.setK q7 v0 fun e => k e M n))
def S153 : List (P × I) := [(s0, q0), (s1, q1), (s8, q2), (s5, q3), (s7, q4), (s9, q5), (s16, q6), (s4, q7)]
def G153 : F2 := .mk (fun a e M n k => R153_0 a e M n fun e M n => (fun (j0 : En → Mem → P → Bool) => R153_2 a e M n fun e M n => (fun (j1 : En → Mem → P → Bool) => loopK (fun a e M n k => R153_3 a e M n fun e M n => e.getK q5 fun v => v.onB fun c => Bool.rec (k (.x 0) e M n) (R153_4 a e M n fun e M n => R153_5 a e M n fun e M n => e.getK q6 fun v => v.onB fun c => Bool.rec (R153_6 a e M n fun e M n => k .n e M n) (R153_7 a e M n fun e M n => k .r e M n) c) c) a e M n fun ex e M n => Ex.rec (j1 e M n) (k .r e M n) (fun id => Bool.rec (k (.x id) e M n) (j1 e M n) (Nat.beq id 0)) ex) fun e M n => j0 e M n) fun e M n => R153_1 a e M n fun e M n => k .r e M n) [.t q7] [q0, q1]
def R154_0 : RegF := fun a e M n k => VV.onAny (.nil) (e.setK q1 (.nil) fun e => k e M n)
def R154_1 : RegF := fun a e M n k => e.getK q0 fun v0 => VV.onAny v0 (mkmV M n fun v1 M n => v_bld [.nil, .nilm] [(0, 1, v0), (1, 1, v1)] fun v2 => bxV 311 v2 M n fun v3 M n => VV.onAny v3 (e.setK q1 v3 fun e => k e M n))
def S154 : List (P × I) := [(s0, q0), (s2, q1)]
def G154 : F2 := .mk (fun a e M n k => R154_0 a e M n fun e M n => R154_1 a e M n fun e M n => k .r e M n) [.t q1] [q0]
def R155_0 : RegF := fun a e M n k => VV.onAny (.nil) (e.setK q2 (.nil) fun e => k e M n)
def R155_1 : RegF := fun a e M n k => e.getK q0 fun v0 => VV.onAny v0 (v_bld (rep 17 .nil) [(0, 1, v0)] fun v1 => bxV 315 v1 M n fun v2 M n => VV.onAny v2 (e.setK q1 v2 fun e => k e M n))
def R155_2 : RegF := fun a e M n k => e.getK q1 fun v0 => VV.onAny v0 (v_bld [(.bool false), (.i (.ofNat 0)), (.i (.ofNat 0)), .nils] [(0, 1, (.bool true))] fun v1 => bxV 318 v1 M n fun v2 M n => v_nck v0 fun v3 => v_fa v3 1 fun v4 => v_ixA v4 (.i (.ofNat 0)) 16 1 fun v5 => stV M v5 v2 1 fun M => k e M n)
def R155_3 : RegF := fun a e M n k => e.getK q1 fun v0 => VV.onAny v0 (VV.onAny v0 (e.setK q2 v0 fun e => k e M n))
def S155 : List (P × I) := [(s0, q0), (s3, q1), (s2, q2)]
def G155 : F2 := .mk (fun a e M n k => R155_0 a e M n fun e M n => R155_1 a e M n fun e M n => R155_2 a e M n fun e M n => R155_3 a e M n fun e M n => k .r e M n) [.t q2] [q0]
end
end Ast
