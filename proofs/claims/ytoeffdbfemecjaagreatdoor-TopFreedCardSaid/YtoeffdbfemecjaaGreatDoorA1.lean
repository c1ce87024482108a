/- Functions of the program in the words of the interpreter, printed by a program of mine; the first half. -/
import Derived.Test.YtoeffdbfemecjaaGreatDoorD3
set_option maxRecDepth 100000
set_option linter.unusedVariables false
namespace Ast
open Go Den
abbrev rep (n : Nat) (v : VV) : List VV := List.replicate n v
def s0 : P := .z
def s1 : P := .a s0
def s2 : P := .b s0
def s3 : P := .c s0
def s4 : P := .d s0
def s5 : P := .a s1
def s6 : P := .b s1
def s7 : P := .c s1
def s8 : P := .d s1
def s9 : P := .a s2
def s10 : P := .b s2
def s11 : P := .c s2
def s12 : P := .d s2
def s13 : P := .a s3
def s14 : P := .b s3
def s15 : P := .c s3
def s16 : P := .d s3
def s17 : P := .a s4
def s18 : P := .b s4
def s19 : P := .c s4
def s20 : P := .d s4
def s21 : P := .a s5
def s22 : P := .b s5
def s23 : P := .c s5
def s24 : P := .d s5
def s25 : P := .a s6
def s26 : P := .b s6
def s27 : P := .c s6
def s28 : P := .d s6
def s29 : P := .a s7
def s30 : P := .b s7
def s31 : P := .c s7
def s32 : P := .d s7
def s33 : P := .a s8
def s34 : P := .b s8
def s35 : P := .c s8
def s36 : P := .d s8
def s37 : P := .a s9
def s38 : P := .b s9
def s39 : P := .c s9
def s40 : P := .d s9
def s41 : P := .a s10
def s42 : P := .b s10
def s43 : P := .c s10
def s44 : P := .d s10
def s45 : P := .a s11
def s46 : P := .b s11
def s47 : P := .c s11
def s48 : P := .d s11
def s49 : P := .a s12
def s50 : P := .b s12
def s51 : P := .c s12
def s52 : P := .d s12
def s53 : P := .a s13
def s54 : P := .b s13
def s55 : P := .c s13
def s56 : P := .d s13
def s57 : P := .a s14
def s58 : P := .b s14
def s59 : P := .c s14
def s60 : P := .d s14
def s61 : P := .a s15
def s62 : P := .b s15
def s63 : P := .c s15
def s64 : P := .d s15
def s65 : P := .a s16
def s66 : P := .b s16
def s67 : P := .c s16
def s68 : P := .d s16
def s69 : P := .a s17
def s70 : P := .b s17
def s71 : P := .c s17
def s72 : P := .d s17
def s73 : P := .a s18
def s74 : P := .b s18
def s75 : P := .c s18
def s76 : P := .d s18
def s77 : P := .a s19
def s78 : P := .b s19
def s79 : P := .c s19
def s80 : P := .d s19
def s81 : P := .a s20
def s82 : P := .b s20
def s83 : P := .c s20
def s84 : P := .d s20
def s85 : P := .a s21
def s86 : P := .b s21
def s87 : P := .c s21
def s88 : P := .d s21
def s89 : P := .a s22
def s90 : P := .b s22
def s91 : P := .c s22
def s92 : P := .d s22
def s93 : P := .a s23
def s94 : P := .b s23
def s95 : P := .c s23
def s96 : P := .d s23
def s97 : P := .a s24
def s98 : P := .b s24
def s99 : P := .c s24
def s100 : P := .d s24
def s101 : P := .a s25
def s102 : P := .b s25
def s103 : P := .c s25
def s104 : P := .d s25
def s105 : P := .a s26
def s106 : P := .b s26
def s107 : P := .c s26
def s108 : P := .d s26
def s109 : P := .a s27
def s110 : P := .b s27
def s111 : P := .c s27
def s112 : P := .d s27
def s113 : P := .a s28
def s114 : P := .b s28
def s115 : P := .c s28
def s116 : P := .d s28
def s117 : P := .a s29
def s118 : P := .b s29
def s119 : P := .c s29
def s120 : P := .d s29
def s121 : P := .a s30
def s122 : P := .b s30
def s123 : P := .c s30
def s124 : P := .d s30
def s125 : P := .a s31
def s126 : P := .b s31
def s127 : P := .c s31
def s128 : P := .d s31
def s129 : P := .a s32
def s130 : P := .b s32
def s131 : P := .c s32
def s132 : P := .d s32
def s133 : P := .a s33
def s134 : P := .b s33
def s135 : P := .c s33
def s136 : P := .d s33
def s137 : P := .a s34
def s138 : P := .b s34
def s139 : P := .c s34
def s140 : P := .d s34
def s141 : P := .a s35
def s142 : P := .b s35
def s143 : P := .c s35
def s144 : P := .d s35
def s145 : P := .a s36
def s146 : P := .b s36
def s147 : P := .c s36
def s148 : P := .d s36
def s149 : P := .a s37
def s150 : P := .b s37
def s151 : P := .c s37
def s152 : P := .d s37
def s153 : P := .a s38
def s154 : P := .b s38
def s155 : P := .c s38
def s156 : P := .d s38
def s157 : P := .a s39
def s158 : P := .b s39
def s159 : P := .c s39
def s160 : P := .d s39
def s161 : P := .a s40
def s162 : P := .b s40
def s163 : P := .c s40
def s164 : P := .d s40
def s165 : P := .a s41
def s166 : P := .b s41
def s167 : P := .c s41
def s168 : P := .d s41
def s169 : P := .a s42
def s170 : P := .b s42
def s171 : P := .c s42
def s172 : P := .d s42
def s173 : P := .a s43
def s174 : P := .b s43
def s175 : P := .c s43
def s176 : P := .d s43
def s177 : P := .a s44
def s178 : P := .b s44
def s179 : P := .c s44
def s180 : P := .d s44
def s181 : P := .a s45
def s182 : P := .b s45
def s183 : P := .c s45
def s184 : P := .d s45
def s185 : P := .a s46
def s186 : P := .b s46
def s187 : P := .c s46
def s188 : P := .d s46
def s189 : P := .a s47
def s190 : P := .b s47
def s191 : P := .c s47
def s192 : P := .d s47
def s193 : P := .a s48
def s194 : P := .b s48
def s195 : P := .c s48
def s196 : P := .d s48
def s197 : P := .a s49
def s198 : P := .b s49
def s199 : P := .c s49
def s200 : P := .d s49
def s201 : P := .a s50
def s202 : P := .b s50
def s203 : P := .c s50
def s204 : P := .d s50
def s205 : P := .a s51
def s206 : P := .b s51
def s207 : P := .c s51
def s208 : P := .d s51
def s209 : P := .a s52
def s210 : P := .b s52
def s211 : P := .c s52
def s212 : P := .d s52
def s213 : P := .a s53
def s214 : P := .b s53
def s215 : P := .c s53
def s216 : P := .d s53
def s217 : P := .a s54
def s218 : P := .b s54
def s219 : P := .c s54
def s220 : P := .d s54
def s221 : P := .a s55
def s222 : P := .b s55
def s223 : P := .c s55
def s224 : P := .d s55
def s225 : P := .a s56
def s226 : P := .b s56
def s227 : P := .c s56
def s228 : P := .d s56
def s229 : P := .a s57
def s230 : P := .b s57
def s231 : P := .c s57
def s232 : P := .d s57
def s233 : P := .a s58
def s234 : P := .b s58
def s235 : P := .c s58
def s236 : P := .d s58
def s237 : P := .a s59
def s238 : P := .b s59
def s239 : P := .c s59
def s240 : P := .d s59
def s241 : P := .a s60
def s242 : P := .b s60
def s243 : P := .c s60
def s244 : P := .d s60
def s245 : P := .a s61
def s246 : P := .b s61
def s247 : P := .c s61
def s248 : P := .d s61
def s249 : P := .a s62
def s250 : P := .b s62
def s251 : P := .c s62
def s252 : P := .d s62
def s253 : P := .a s63
def s254 : P := .b s63
def s255 : P := .c s63
def s256 : P := .d s63
def s257 : P := .a s64
def s258 : P := .b s64
def s259 : P := .c s64
def s260 : P := .d s64
def s261 : P := .a s65
def s262 : P := .b s65
def s263 : P := .c s65
def s264 : P := .d s65
def s265 : P := .a s66
def s266 : P := .b s66
def s267 : P := .c s66
def s268 : P := .d s66
def s269 : P := .a s67
def s270 : P := .b s67
def s271 : P := .c s67
def s272 : P := .d s67
def s273 : P := .a s68
def s274 : P := .b s68
def s275 : P := .c s68
def s276 : P := .d s68
def s277 : P := .a s69
def s278 : P := .b s69
def s279 : P := .c s69
def s280 : P := .d s69
def s281 : P := .a s70
def s282 : P := .b s70
def s283 : P := .c s70
def s284 : P := .d s70
def s285 : P := .a s71
def s286 : P := .b s71
def s287 : P := .c s71
def s288 : P := .d s71
def s289 : P := .a s72
def s290 : P := .b s72
def s291 : P := .c s72
def s292 : P := .d s72
def s293 : P := .a s73
def s294 : P := .b s73
def s295 : P := .c s73
def s296 : P := .d s73
def s297 : P := .a s74
def s298 : P := .b s74
def s299 : P := .c s74
def s300 : P := .d s74
def s301 : P := .a s75
def s302 : P := .b s75
def s303 : P := .c s75
def s304 : P := .d s75
def s305 : P := .a s76
def s306 : P := .b s76
def s307 : P := .c s76
def s308 : P := .d s76
def s309 : P := .a s77
def s310 : P := .b s77
def s311 : P := .c s77
def s312 : P := .d s77
def s313 : P := .a s78
def s314 : P := .b s78
def s315 : P := .c s78
def s316 : P := .d s78
def s317 : P := .a s79
def s318 : P := .b s79
def s319 : P := .c s79
def s320 : P := .d s79
def s321 : P := .a s80
def s322 : P := .b s80
def s323 : P := .c s80
def s324 : P := .d s80
def s325 : P := .a s81
def s326 : P := .b s81
def s327 : P := .c s81
def s328 : P := .d s81
def s329 : P := .a s82
def s330 : P := .b s82
def s331 : P := .c s82
def s332 : P := .d s82
def s333 : P := .a s83
def s334 : P := .b s83
def s335 : P := .c s83
def s336 : P := .d s83
def s337 : P := .a s84
def s338 : P := .b s84
def s339 : P := .c s84
def s340 : P := .d s84
def s341 : P := .a s85
def s342 : P := .b s85
def s343 : P := .c s85
def s344 : P := .d s85
def s345 : P := .a s86
def s346 : P := .b s86
def s347 : P := .c s86
def s348 : P := .d s86
def s349 : P := .a s87
def s350 : P := .b s87
def s351 : P := .c s87
def s352 : P := .d s87
def s353 : P := .a s88
def s354 : P := .b s88
def s355 : P := .c s88
def s356 : P := .d s88
def s357 : P := .a s89
def s358 : P := .b s89
def s359 : P := .c s89
def s360 : P := .d s89
def s361 : P := .a s90
def s362 : P := .b s90
def s363 : P := .c s90
def s364 : P := .d s90
def s365 : P := .a s91
def s366 : P := .b s91
def s367 : P := .c s91
def s368 : P := .d s91
def s369 : P := .a s92
def s370 : P := .b s92
def s371 : P := .c s92
def s372 : P := .d s92
def s373 : P := .a s93
def s374 : P := .b s93
def s375 : P := .c s93
def s376 : P := .d s93
def s377 : P := .a s94
def s378 : P := .b s94
def s379 : P := .c s94
def s380 : P := .d s94
def s381 : P := .a s95
def s382 : P := .b s95
def s383 : P := .c s95
def s384 : P := .d s95
def s385 : P := .a s96
def s386 : P := .b s96
def s387 : P := .c s96
def s388 : P := .d s96
def s389 : P := .a s97
def s390 : P := .b s97
def s391 : P := .c s97
def s392 : P := .d s97
def s393 : P := .a s98
def s394 : P := .b s98
def s395 : P := .c s98
def s396 : P := .d s98
def s397 : P := .a s99
def s398 : P := .b s99
def s399 : P := .c s99
def s400 : P := .d s99
def s401 : P := .a s100
def s402 : P := .b s100
def s403 : P := .c s100
def s404 : P := .d s100
def q0 : I := .i0
def q1 : I := .i1
def q2 : I := .i2
def q3 : I := .i3
def q4 : I := .i4
def q5 : I := .i5
def q6 : I := .i6
def q7 : I := .i7
def q8 : I := .nx q0
def q9 : I := .nx q1
def q10 : I := .nx q2
def q11 : I := .nx q3
def q12 : I := .nx q4
def q13 : I := .nx q5
def q14 : I := .nx q6
def q15 : I := .nx q7
def q16 : I := .nx q8
def q17 : I := .nx q9
def q18 : I := .nx q10
def q19 : I := .nx q11
def q20 : I := .nx q12
def q21 : I := .nx q13
def q22 : I := .nx q14
def q23 : I := .nx q15
def q24 : I := .nx q16
def q25 : I := .nx q17
def q26 : I := .nx q18
def q27 : I := .nx q19
noncomputable def R3_0 : RegF := fun call e M nx k => VV.onAny (.bool false) (e.setK q8 (.bool false) fun e => k e M nx)
noncomputable def R3_1 : RegF := fun call e M nx k => e.getK q0 fun v0 => e.getK q1 fun v1 => VV.onAny v0 (callV call s7 [v0, (.i (.ofNat 20))] M nx fun v2 M nx => v_add (.i (.ofNat 1)) v2 fun v3 => VV.onAny v1 (callV call s7 [v1, (.i (.ofNat 10))] M nx fun v4 M nx => v_add (.i (.ofNat 1)) v4 fun v5 => VV.onAny v3 (VV.onAny v5 (e.setK q3 v3 fun e => e.setK q4 v5 fun e => k e M nx))))
noncomputable def R3_2 : RegF := fun call e M nx k => e.getK q3 fun v0 => VV.onAny v0 (v_bld [(.i (.ofNat 0)), (.i (.ofNat 0))] [(0, 1, (.i (.ofNat 1))), (1, 1, v0)] fun v1 => bslV 24 2 1 [(.i (.ofNat 0)), (.i (.ofNat 0))] [(0, 2, v1)] M nx fun v2 M nx => v_bld [.nils, .nils, .nils, .nils, (.i (.ofNat 0)), (.i (.ofNat 0))] [(4, 1, (.i (.ofNat 8))), (5, 1, (.i (.ofNat 100000))), (2, 1, v2)] fun v3 => alV 30 [.nils, .nils, .nils, .nils, (.i (.ofNat 0)), (.i (.ofNat 0))] M nx fun v4 M nx => stV M v4 v3 6 fun M => e.setK q2 v4 fun e => k e M nx)
noncomputable def R3_3 : RegF := fun call e M nx k => e.getK q2 fun v0 => bslV 3 1 1 [(.i (.ofNat 0))] [(0, 1, (.i (.ofNat 0)))] M nx fun v1 M nx => v_bld [(.i (.ofNat 0)), (.i (.ofNat 0)), (.i (.ofNat 0)), (.i (.ofNat 0)), (.i (.ofNat 0)), (.i (.ofNat 0)), (.i (.ofNat 0)), (.str []), (.str [])] [(0, 1, (.i (.ofNat 2)))] fun v2 => v_bld [(.i (.ofNat 0)), (.i (.ofNat 0)), (.i (.ofNat 0)), (.i (.ofNat 0)), (.i (.ofNat 0)), (.i (.ofNat 0)), (.i (.ofNat 0)), (.str []), (.str [])] [(0, 1, (.i (.ofNat 4)))] fun v3 => bslV 34 9 2 (rep 7 (.i (.ofNat 0)) ++ [(.str []), (.str [])] ++ rep 7 (.i (.ofNat 0)) ++ [(.str []), (.str [])]) [(0, 9, v2), (9, 9, v3)] M nx fun v4 M nx => v_bld [(.i (.ofNat 0)), (.i (.ofNat 0)), (.i (.ofNat 0)), (.i (.ofNat 0)), (.i (.ofNat 0)), (.i (.ofNat 0)), .nils, .nils] [(0, 1, (.i (.ofNat 2))), (1, 1, (.i (.ofNat 9))), (2, 1, (.i (.ofNat 500))), (3, 1, (.i (.ofNat 500))), (4, 1, (.i (.ofNat 10))), (5, 1, (.i (.negSucc 0))), (6, 1, v1), (7, 1, v4)] fun v5 => bslV 37 8 1 [(.i (.ofNat 0)), (.i (.ofNat 0)), (.i (.ofNat 0)), (.i (.ofNat 0)), (.i (.ofNat 0)), (.i (.ofNat 0)), .nils, .nils] [(0, 8, v5)] M nx fun v6 M nx => v_fa v0 0 fun v7 => stV M v7 v6 1 fun M => k e M nx
noncomputable def R3_4 : RegF := fun call e M nx k => e.getK q2 fun v0 => v_bld [(.i (.ofNat 0)), (.i (.ofNat 0)), (.i (.ofNat 0)), (.i (.ofNat 0)), (.i (.ofNat 0)), (.i (.ofNat 0)), (.i (.ofNat 0)), (.str []), (.str [])] [(0, 1, (.i (.ofNat 2)))] fun v1 => v_bld [(.i (.ofNat 0)), (.i (.ofNat 0)), (.i (.ofNat 0)), (.i (.ofNat 0)), (.i (.ofNat 0)), (.i (.ofNat 0)), (.i (.ofNat 0)), (.str []), (.str [])] [(0, 1, (.i (.ofNat 1))), (1, 1, (.i (.ofNat 900)))] fun v2 => bslV 34 9 2 (rep 7 (.i (.ofNat 0)) ++ [(.str []), (.str [])] ++ rep 7 (.i (.ofNat 0)) ++ [(.str []), (.str [])]) [(0, 9, v1), (9, 9, v2)] M nx fun v3 M nx => v_bld [(.i (.ofNat 0)), .nils] [(1, 1, v3)] fun v4 => bslV 39 2 1 [(.i (.ofNat 0)), .nils] [(0, 2, v4)] M nx fun v5 M nx => v_fa v0 1 fun v6 => stV M v6 v5 1 fun M => k e M nx
noncomputable def R3_5 : RegF := fun call e M nx k => e.getK q2 fun v0 => e.getK q4 fun v1 => (fun M0 => ldV M v0 6 true fun bv2 v2 => VV.onAny v1 (callV call s9 [v1, (.i (.ofNat 0))] M nx fun v3 M nx => bslV 48 3 1 [(.i (.ofNat 0)), (.i (.ofNat 0)), (.i (.ofNat 0))] [(0, 3, v3)] M nx fun v4 M nx => callV call s8 [v2, v4, (.i (.ofNat 40))] M nx fun v5 M nx => alV 45 [.nils, .nils, .nils, (.i (.ofNat 0))] M nx fun v6 M nx => Bool.rec false (stV M v6 v5 4 fun M => e.setK q5 v6 fun e => k e M nx) (keptB M0 M (bv2 :: [])))) M
noncomputable def R3_6 : RegF := fun call e M nx k => e.getK q5 fun v0 => v_fa v0 1 fun v1 => ldV M v1 1 false fun _ v2 => callV call s10 [v2, (.i (.ofNat 0))] M nx fun v3 M nx => VV.onAny v3 (v_ext v3 0 fun v4 => v_ext v3 1 fun v5 => alV 52 [(.i (.ofNat 0)), (.i (.ofNat 0)), (.i (.ofNat 0)), (.i (.ofNat 0)), (.i (.ofNat 0)), (.bool false)] M nx fun v6 M nx => stV M v6 v4 6 fun M => VV.onAny v5 (e.setK q7 v6 fun e => e.setK q6 v5 fun e => k e M nx))
noncomputable def R3_7 : RegF := fun call e M nx k => e.getK q5 fun v0 => e.getK q6 fun v1 => e.getK q7 fun v2 => e.getK q4 fun v3 => e.getK q3 fun v4 => v_fa v0 3 fun v5 => ldV M v5 1 false fun _ v6 => v_eq v6 (.i (.ofNat 0)) fun v7 => VV.onAny v7 (gdK v7 true .off M nx (fun j => v_mv v1 fun v => j v M nx) fun v8 M nx => v_pick v7 v8 (.bool false) fun v9 => VV.onAny v9 (gdK v9 true .off M nx (fun j => v_fa v2 3 fun v => j v M nx) fun v10 M nx => gdK v9 true .off M nx (fun j => ldV M v10 1 false fun _ v => j v M nx) fun v11 M nx => gdK v9 true .off M nx (fun j => v_mv v3 fun v => j v M nx) fun v12 M nx => gdK v9 true .off M nx (fun j => v_mv v4 fun v => j v M nx) fun v13 M nx => gdK v9 true .off M nx (fun j => v_add v13 (.i (.ofNat 1)) fun v => j v M nx) fun v14 M nx => gdK v9 true .off M nx (fun j => v_max v12 v14 fun v => j v M nx) fun v15 M nx => gdK v9 true .off M nx (fun j => v_add v15 (.i (.ofNat 2)) fun v => j v M nx) fun v16 M nx => gdK v9 true .off M nx (fun j => v_eq v11 v16 fun v => j v M nx) fun v17 M nx => v_pick v9 v17 (.bool false) fun v18 => VV.onAny v18 (gdK v18 true .off M nx (fun j => v_fa v2 4 fun v => j v M nx) fun v19 M nx => gdK v18 true .off M nx (fun j => ldV M v19 1 false fun _ v => j v M nx) fun v20 M nx => gdK v18 true .off M nx (fun j => v_eq v20 (.i (.ofNat 2)) fun v => j v M nx) fun v21 M nx => v_pick v18 v21 (.bool false) fun v22 => VV.onAny v22 (gdK v22 true .off M nx (fun j => v_fa v0 2 fun v => j v M nx) fun v23 M nx => gdK v22 true .off M nx (fun j => ldV M v23 1 false fun _ v => j v M nx) fun v24 M nx => gdK v22 true .no M nx (fun j => callV call s11 [v24, (.i (.ofNat 1))] M nx fun v M nx => j v M nx) fun v25 M nx => v_pick v22 v25 (.bool false) fun v26 => VV.onAny v26 (gdK v26 true .no M nx (fun j => callV call s12 [] M nx fun v M nx => j v M nx) fun v27 M nx => v_pick v26 v27 (.bool false) fun v28 => VV.onAny v28 (e.setK q8 v28 fun e => k e M nx))))))
noncomputable def S3 : List (P × I) := [(s0, q0), (s1, q1), (s7, q2), (s5, q3), (s6, q4), (s8, q5), (s10, q6), (s9, q7), (s4, q8)]
noncomputable def G3 : F2 := .mk (fun call e M nx k => R3_0 call e M nx fun e M nx => R3_1 call e M nx fun e M nx => R3_2 call e M nx fun e M nx => R3_3 call e M nx fun e M nx => R3_4 call e M nx fun e M nx => R3_5 call e M nx fun e M nx => R3_6 call e M nx fun e M nx => R3_7 call e M nx fun e M nx => k .r e M nx) [.t q8] [q0, q1]
noncomputable def R5_0 : RegF := fun call e M nx k => VV.onAny (.bool false) (e.setK q21 (.bool false) fun e => k e M nx)
noncomputable def R5_1 : RegF := fun call e M nx k => e.getK q0 fun v0 => VV.onAny v0 (callV call s7 [v0, (.i (.ofNat 4))] M nx fun v1 M nx => v_add (.i (.ofNat 1)) v1 fun v2 => VV.onAny v2 (e.setK q2 v2 fun e => k e M nx))
noncomputable def R5_2 : RegF := fun call e M nx k => bslV 3 1 1 [(.i (.ofNat 0))] [(0, 1, (.i (.ofNat 0)))] M nx fun v0 M nx => v_bld [(.i (.ofNat 0)), (.i (.ofNat 0)), (.i (.ofNat 0)), (.i (.ofNat 0)), (.i (.ofNat 0)), (.i (.ofNat 0)), (.i (.ofNat 0)), (.str []), (.str [])] [(0, 1, (.i (.ofNat 2)))] fun v1 => v_bld [(.i (.ofNat 0)), (.i (.ofNat 0)), (.i (.ofNat 0)), (.i (.ofNat 0)), (.i (.ofNat 0)), (.i (.ofNat 0)), (.i (.ofNat 0)), (.str []), (.str [])] [(0, 1, (.i (.ofNat 3)))] fun v2 => bslV 34 9 2 (rep 7 (.i (.ofNat 0)) ++ [(.str []), (.str [])] ++ rep 7 (.i (.ofNat 0)) ++ [(.str []), (.str [])]) [(0, 9, v1), (9, 9, v2)] M nx fun v3 M nx => v_bld [(.i (.ofNat 0)), (.i (.ofNat 0)), (.i (.ofNat 0)), (.i (.ofNat 0)), (.i (.ofNat 0)), (.i (.ofNat 0)), .nils, .nils] [(0, 1, (.i (.ofNat 2))), (1, 1, (.i (.ofNat 9))), (2, 1, (.i (.ofNat 500))), (3, 1, (.i (.ofNat 500))), (4, 1, (.i (.ofNat 10))), (5, 1, (.i (.negSucc 0))), (6, 1, v0), (7, 1, v3)] fun v4 => bslV 37 8 1 [(.i (.ofNat 0)), (.i (.ofNat 0)), (.i (.ofNat 0)), (.i (.ofNat 0)), (.i (.ofNat 0)), (.i (.ofNat 0)), .nils, .nils] [(0, 8, v4)] M nx fun v5 M nx => v_bld [.nils, .nils, .nils, .nils, (.i (.ofNat 0)), (.i (.ofNat 0))] [(4, 1, (.i (.ofNat 8))), (5, 1, (.i (.ofNat 100000))), (0, 1, v5)] fun v6 => alV 30 [.nils, .nils, .nils, .nils, (.i (.ofNat 0)), (.i (.ofNat 0))] M nx fun v7 M nx => stV M v7 v6 6 fun M => e.setK q4 v7 fun e => k e M nx
noncomputable def R5_3 : RegF := fun call e M nx k => VV.onAny (.i (.ofNat 0)) (e.setK q6 (.i (.ofNat 0)) fun e => k e M nx)
noncomputable def R5_4 : RegF := fun call e M nx k => e.getK q6 fun v0 => e.getK q2 fun v1 => VV.onAny v0 (VV.onAny v1 (v_lt v0 v1 fun v2 => e.setK q11 v2 fun e => k e M nx))
noncomputable def R5_5 : RegF := fun call e M nx k => e.getK q4 fun v0 => e.getK q6 fun v1 => e.getK q1 fun v2 => (fun M0 => v_fa v0 2 fun v3 => ldV M v3 1 false fun bv4 v4 => VV.onAny v1 (v_add (.i (.ofNat 1)) v1 fun v5 => VV.onAny v2 (callV call s7 [v2, (.i (.ofNat 800))] M nx fun v6 M nx => v_add (.i (.ofNat 200)) v6 fun v7 => v_bld [(.i (.ofNat 0)), (.i (.ofNat 0))] [(0, 1, v5), (1, 1, v7)] fun v8 => bslV 24 2 1 [(.i (.ofNat 0)), (.i (.ofNat 0))] [(0, 2, v8)] M nx fun v9 M nx => appV 24 2 16 v4 v9 M nx fun v10 M nx => v_fa v0 2 fun v11 => Bool.rec false (stV M v11 v10 1 fun M => k e M nx) (keptB M0 M (bv4 :: []))))) M
noncomputable def R5_6 : RegF := fun call e M nx k => e.getK q6 fun v0 => VV.onAny v0 (v_add v0 (.i (.ofNat 1)) fun v1 => VV.onAny v1 (e.setK q6 v1 fun e => k e M nx))
noncomputable def R5_7 : RegF := fun call e M nx k => VV.onAny (.i (.ofNat 0)) (e.setK q3 (.i (.ofNat 0)) fun e => k e M nx)
noncomputable def R5_8 : RegF := fun call e M nx k => e.getK q3 fun v0 => e.getK q2 fun v1 => VV.onAny v0 (VV.onAny v1 (v_lt v0 v1 fun v2 => e.setK q12 v2 fun e => k e M nx))
noncomputable def R5_9 : RegF := fun call e M nx k => e.getK q3 fun v0 => VV.onAny v0 (v_bld [(.i (.ofNat 0)), (.i (.ofNat 0)), (.i (.ofNat 0)), (.i (.ofNat 0)), (.i (.ofNat 0)), (.i (.ofNat 0)), (.i (.ofNat 0)), (.str []), (.str [])] [(0, 1, (.i (.ofNat 2))), (1, 1, v0)] fun v1 => bslV 34 9 1 [(.i (.ofNat 0)), (.i (.ofNat 0)), (.i (.ofNat 0)), (.i (.ofNat 0)), (.i (.ofNat 0)), (.i (.ofNat 0)), (.i (.ofNat 0)), (.str []), (.str [])] [(0, 9, v1)] M nx fun v2 M nx => VV.onAny v2 (e.setK q10 v2 fun e => k e M nx))
noncomputable def R5_10 : RegF := fun call e M nx k => e.getK q3 fun v0 => e.getK q2 fun v1 => VV.onAny v0 (VV.onAny v1 (v_sub v1 (.i (.ofNat 1)) fun v2 => v_lt v0 v2 fun v3 => e.setK q13 v3 fun e => k e M nx))
noncomputable def R5_11 : RegF := fun call e M nx k => e.getK q2 fun v0 => e.getK q3 fun v1 => VV.onAny v0 (VV.onAny v1 (v_sub v0 v1 fun v2 => v_mul (.i (.ofNat 10)) v2 fun v3 => v_bld [(.i (.ofNat 0)), (.i (.ofNat 0)), (.i (.ofNat 0)), (.i (.ofNat 0)), (.i (.ofNat 0)), (.i (.ofNat 0)), (.i (.ofNat 0)), (.str []), (.str [])] [(0, 1, (.i (.ofNat 7))), (1, 1, v3)] fun v4 => VV.onAny v1 (v_bld [(.i (.ofNat 0)), (.i (.ofNat 0)), (.i (.ofNat 0)), (.i (.ofNat 0)), (.i (.ofNat 0)), (.i (.ofNat 0)), (.i (.ofNat 0)), (.str []), (.str [])] [(0, 1, (.i (.ofNat 2))), (1, 1, v1)] fun v5 => VV.onAny v1 (v_add v1 (.i (.ofNat 1)) fun v6 => v_bld [(.i (.ofNat 0)), (.i (.ofNat 0)), (.i (.ofNat 0)), (.i (.ofNat 0)), (.i (.ofNat 0)), (.i (.ofNat 0)), (.i (.ofNat 0)), (.str []), (.str [])] [(0, 1, (.i (.ofNat 2))), (1, 1, v6)] fun v7 => VV.onAny v1 (v_add v1 (.i (.ofNat 1)) fun v8 => v_bld [(.i (.ofNat 0)), (.i (.ofNat 0)), (.i (.ofNat 0)), (.i (.ofNat 0)), (.i (.ofNat 0)), (.i (.ofNat 0)), (.i (.ofNat 0)), (.str []), (.str [])] [(0, 1, (.i (.ofNat 3))), (1, 1, v8)] fun v9 => bslV 34 9 4 (rep 7 (.i (.ofNat 0)) ++ [(.str []), (.str [])] ++ rep 7 (.i (.ofNat 0)) ++ [(.str []), (.str [])] ++ rep 7 (.i (.ofNat 0)) ++ [(.str []), (.str [])] ++ rep 7 (.i (.ofNat 0)) ++ [(.str []), (.str [])]) [(0, 9, v4), (9, 9, v5), (18, 9, v7), (27, 9, v9)] M nx fun v10 M nx => VV.onAny v10 (e.setK q10 v10 fun e => k e M nx))))))
noncomputable def R5_12 : RegF := fun call e M nx k => e.getK q10 fun v0 => e.getK q3 fun v1 => VV.onAny v0 (v_bld [(.i (.ofNat 0)), (.i (.ofNat 0)), (.i (.ofNat 0)), (.i (.ofNat 0)), (.i (.ofNat 0)), (.i (.ofNat 0)), (.i (.ofNat 0)), (.str []), (.str [])] [(0, 1, (.i (.ofNat 1))), (1, 1, (.i (.ofNat 100)))] fun v2 => VV.onAny v1 (v_bld [(.i (.ofNat 0)), (.i (.ofNat 0)), (.i (.ofNat 0)), (.i (.ofNat 0)), (.i (.ofNat 0)), (.i (.ofNat 0)), (.i (.ofNat 0)), (.str []), (.str [])] [(0, 1, (.i (.ofNat 3))), (1, 1, v1)] fun v3 => bslV 34 9 2 (rep 7 (.i (.ofNat 0)) ++ [(.str []), (.str [])] ++ rep 7 (.i (.ofNat 0)) ++ [(.str []), (.str [])]) [(0, 9, v2), (9, 9, v3)] M nx fun v4 M nx => appV 34 9 88 v0 v4 M nx fun v5 M nx => VV.onAny v5 (e.setK q10 v5 fun e => k e M nx)))
noncomputable def R5_13 : RegF := fun call e M nx k => e.getK q4 fun v0 => e.getK q2 fun v1 => e.getK q3 fun v2 => e.getK q10 fun v3 => v_fa v0 1 fun v4 => ldV M v4 1 false fun _ v5 => VV.onAny v1 (v_sub v1 (.i (.ofNat 1)) fun v6 => VV.onAny v2 (v_sub v6 v2 fun v7 => VV.onAny v3 (v_bld [(.i (.ofNat 0)), .nils] [(0, 1, v7), (1, 1, v3)] fun v8 => bslV 39 2 1 [(.i (.ofNat 0)), .nils] [(0, 2, v8)] M nx fun v9 M nx => appV 39 2 32 v5 v9 M nx fun v10 M nx => v_fa v0 1 fun v11 => stV M v11 v10 1 fun M => k e M nx)))
noncomputable def R5_14 : RegF := fun call e M nx k => e.getK q3 fun v0 => VV.onAny v0 (v_add v0 (.i (.ofNat 1)) fun v1 => VV.onAny v1 (e.setK q3 v1 fun e => k e M nx))
noncomputable def R5_15 : RegF := fun call e M nx k => e.getK q4 fun v0 => v_fa v0 1 fun v1 => ldV M v1 1 false fun _ v2 => v_bld [(.i (.ofNat 0)), (.i (.ofNat 0)), (.i (.ofNat 0)), (.i (.ofNat 0)), (.i (.ofNat 0)), (.i (.ofNat 0)), (.i (.ofNat 0)), (.str []), (.str [])] [(0, 1, (.i (.ofNat 7))), (1, 1, (.i (.ofNat 60)))] fun v3 => v_bld [(.i (.ofNat 0)), (.i (.ofNat 0)), (.i (.ofNat 0)), (.i (.ofNat 0)), (.i (.ofNat 0)), (.i (.ofNat 0)), (.i (.ofNat 0)), (.str []), (.str [])] [(0, 1, (.i (.ofNat 1))), (1, 1, (.i (.ofNat 1000)))] fun v4 => bslV 34 9 2 (rep 7 (.i (.ofNat 0)) ++ [(.str []), (.str [])] ++ rep 7 (.i (.ofNat 0)) ++ [(.str []), (.str [])]) [(0, 9, v3), (9, 9, v4)] M nx fun v5 M nx => v_bld [(.i (.ofNat 0)), .nils] [(0, 1, (.i (.ofNat 15))), (1, 1, v5)] fun v6 => bslV 39 2 1 [(.i (.ofNat 0)), .nils] [(0, 2, v6)] M nx fun v7 M nx => appV 39 2 32 v2 v7 M nx fun v8 M nx => v_fa v0 1 fun v9 => stV M v9 v8 1 fun M => k e M nx
noncomputable def R5_16 : RegF := fun call e M nx k => e.getK q4 fun v0 => ldV M v0 6 true fun _ v1 => callV call s14 [v1] M nx fun v2 M nx => VV.onAny v2 (e.setK q7 v2 fun e => k e M nx)
noncomputable def R5_17 : RegF := fun call e M nx k => e.getK q7 fun v0 => VV.onAny v0 (v_nqP false v0 fun v1 => e.setK q14 v1 fun e => k e M nx)
noncomputable def R5_18 : RegF := fun call e M nx k => VV.onAny (.bool false) (e.setK q21 (.bool false) fun e => k e M nx)
noncomputable def R5_19 : RegF := fun call e M nx k => VV.onAny (.i (.ofNat 0)) (e.setK q5 (.i (.ofNat 0)) fun e => k e M nx)
noncomputable def R5_20 : RegF := fun call e M nx k => e.getK q5 fun v0 => VV.onAny v0 (v_lt v0 (.i (.ofNat 70)) fun v1 => e.setK q15 v1 fun e => k e M nx)
noncomputable def R5_21 : RegF := fun call e M nx k => e.getK q7 fun v0 => e.getK q5 fun v1 => VV.onAny v0 (callV call s9 [(.i (.ofNat 65)), (.i (.ofNat 0))] M nx fun v2 M nx => bslV 48 3 1 [(.i (.ofNat 0)), (.i (.ofNat 0)), (.i (.ofNat 0))] [(0, 3, v2)] M nx fun v3 M nx => VV.onAny v1 (callV call s16 [v3, v1] M nx fun v4 M nx => callV call s15 [v0, v4] M nx fun v5 M nx => alV 67 [(.i (.ofNat 0)), (.bool false)] M nx fun v6 M nx => stV M v6 v5 2 fun M => e.setK q16 v6 fun e => k e M nx))
noncomputable def R5_22 : RegF := fun call e M nx k => e.getK q5 fun v0 => e.getK q16 fun v1 => e.getK q2 fun v2 => VV.onAny v0 (v_le (.i (.ofNat 60)) v0 fun v3 => VV.onAny v3 (gdK v3 true .off M nx (fun j => v_mv v0 fun v => j v M nx) fun v4 M nx => gdK v3 true .off M nx (fun j => v_lt v4 (.i (.ofNat 65)) fun v => j v M nx) fun v5 M nx => v_pick v3 v5 (.bool false) fun v6 => VV.onAny v6 (gdK v6 true .off M nx (fun j => ldV M v1 2 true fun _ v => j v M nx) fun v7 M nx => gdK v6 true .off M nx (fun j => v_mv v2 fun v => j v M nx) fun v8 M nx => gdK v6 true .off M nx (fun j => v_add v8 (.i (.ofNat 1)) fun v => j v M nx) fun v9 M nx => gdK v6 true .off M nx (fun j => v_bld [(.i (.ofNat 0)), (.bool false)] [(0, 1, v9)] fun v => j v M nx) fun v10 M nx => gdK v6 true .off M nx (fun j => v_aeq true [(0, .i), (1, .b)] v7 v10 fun v => j v M nx) fun v11 M nx => v_pick v6 v11 (.bool false) fun v12 => VV.onAny v12 (gdK v12 false .off M nx (fun j => v_mv v0 fun v => j v M nx) fun v13 M nx => gdK v12 false .off M nx (fun j => v_le (.i (.ofNat 65)) v13 fun v => j v M nx) fun v14 M nx => gdK v12 false .off M nx (fun j => v_mv v14 fun v => j v M nx) fun v15 M nx => gdK v15 true .off M nx (fun j => ldV M v1 2 true fun _ v => j v M nx) fun v16 M nx => gdK v15 true .off M nx (fun j => v_mv v2 fun v => j v M nx) fun v17 M nx => gdK v15 true .off M nx (fun j => v_bld [(.i (.ofNat 0)), (.bool false)] [(0, 1, v17)] fun v => j v M nx) fun v18 M nx => gdK v15 true .off M nx (fun j => v_aeq true [(0, .i), (1, .b)] v16 v18 fun v => j v M nx) fun v19 M nx => gdK v12 false .off M nx (fun j => v_pick v15 v19 (.bool false) fun v => j v M nx) fun v20 M nx => v_pick v12 (.bool true) v20 fun v21 => e.setK q17 v21 fun e => k e M nx))))
noncomputable def R5_23 : RegF := fun call e M nx k => VV.onAny (.bool false) (e.setK q21 (.bool false) fun e => k e M nx)
noncomputable def R5_24 : RegF := fun call e M nx k => e.getK q5 fun v0 => VV.onAny v0 (v_add v0 (.i (.ofNat 1)) fun v1 => VV.onAny v1 (e.setK q5 v1 fun e => k e M nx))
noncomputable def R5_25 : RegF := fun call e M nx k => e.getK q7 fun v0 => VV.onAny v0 (callV call s17 [v0] M nx fun v1 M nx => VV.onAny v1 (e.setK q8 v1 fun e => k e M nx))
noncomputable def R5_26 : RegF := fun call e M nx k => e.getK q8 fun v0 => e.getK q2 fun v1 => VV.onAny v0 (v_lenS v0 fun v2 => VV.onAny v1 (v_add v1 (.i (.ofNat 2)) fun v3 => v_ne v2 v3 fun v4 => e.setK q18 v4 fun e => k e M nx))
noncomputable def R5_27 : RegF := fun call e M nx k => VV.onAny (.bool false) (e.setK q21 (.bool false) fun e => k e M nx)
noncomputable def R5_28 : RegF := fun call e M nx k => VV.onAny (.i (.ofNat 0)) (e.setK q9 (.i (.ofNat 0)) fun e => k e M nx)
noncomputable def R5_29 : RegF := fun call e M nx k => e.getK q9 fun v0 => e.getK q2 fun v1 => VV.onAny v0 (VV.onAny v1 (v_le v0 v1 fun v2 => e.setK q19 v2 fun e => k e M nx))
noncomputable def R5_30 : RegF := fun call e M nx k => e.getK q8 fun v0 => e.getK q9 fun v1 => VV.onAny v0 (VV.onAny v1 (v_ixS v0 v1 3 fun v2 => ldV M v2 3 true fun _ v3 => v_bld [(.i (.ofNat 0)), (.i (.ofNat 0)), (.i (.ofNat 0))] [(0, 1, (.i (.ofNat 2))), (1, 1, (.i (.ofNat 9)))] fun v4 => v_aeq true [(0, .i), (1, .i), (2, .i)] v3 v4 fun v5 => e.setK q20 v5 fun e => k e M nx))
noncomputable def R5_31 : RegF := fun call e M nx k => VV.onAny (.bool false) (e.setK q21 (.bool false) fun e => k e M nx)
noncomputable def R5_32 : RegF := fun call e M nx k => e.getK q9 fun v0 => VV.onAny v0 (v_add v0 (.i (.ofNat 1)) fun v1 => VV.onAny v1 (e.setK q9 v1 fun e => k e M nx))
noncomputable def R5_33 : RegF := fun call e M nx k => e.getK q8 fun v0 => e.getK q2 fun v1 => VV.onAny v0 (VV.onAny v1 (v_add v1 (.i (.ofNat 1)) fun v2 => v_ixS v0 v2 3 fun v3 => ldV M v3 3 true fun _ v4 => v_bld [(.i (.ofNat 0)), (.i (.ofNat 0)), (.i (.ofNat 0))] [(1, 1, (.i (.ofNat 15)))] fun v5 => v_aeq false [(0, .i), (1, .i), (2, .i)] v4 v5 fun v6 => VV.onAny v6 (gdK v6 true .no M nx (fun j => callV call s12 [] M nx fun v M nx => j v M nx) fun v7 M nx => v_pick v6 v7 (.bool false) fun v8 => VV.onAny v8 (e.setK q21 v8 fun e => k e M nx))))
noncomputable def S5 : List (P × I) := [(s0, q0), (s1, q1), (s5, q2), (s8, q3), (s6, q4), (s11, q5), (s7, q6), (s10, q7), (s13, q8), (s14, q9), (s9, q10), (s27, q11), (s43, q12), (s52, q13), (s96, q14), (s98, q15), (s12, q16), (s129, q17), (s136, q18), (s139, q19), (s147, q20), (s4, q21)]
noncomputable def G5 : F2 := .mk ((c_seq (c_fn R5_0) (c_seq (c_fn R5_1) (c_seq (c_fn R5_2) (c_seq (c_seq (c_fn R5_3) (c_blk 0 (loopK (c_seq (c_seq (c_fn R5_4) (c_cond (.t q11) c_skip (c_exit 0))) (c_seq (c_blk 1 (c_fn R5_5)) (c_fn R5_6)))))) (c_seq (c_seq (c_fn R5_7) (c_blk 2 (loopK (c_seq (c_seq (c_fn R5_8) (c_cond (.t q12) c_skip (c_exit 2))) (c_seq (c_blk 3 (c_seq (c_fn R5_9) (c_seq (c_seq (c_fn R5_10) (c_cond (.t q13) (c_fn R5_11) c_skip)) (c_seq (c_fn R5_12) (c_fn R5_13))))) (c_fn R5_14)))))) (c_seq (c_fn R5_15) (c_seq (c_fn R5_16) (c_seq (c_seq (c_fn R5_17) (c_cond (.t q14) (c_seq (c_fn R5_18) c_ret) c_skip)) (c_seq (c_seq (c_fn R5_19) (c_blk 4 (loopK (c_seq (c_seq (c_fn R5_20) (c_cond (.t q15) c_skip (c_exit 4))) (c_seq (c_blk 5 (c_seq (c_fn R5_21) (c_seq (c_fn R5_22) (c_cond (.t q17) (c_seq (c_fn R5_23) c_ret) c_skip)))) (c_fn R5_24)))))) (c_seq (c_fn R5_25) (c_seq (c_seq (c_fn R5_26) (c_cond (.t q18) (c_seq (c_fn R5_27) c_ret) c_skip)) (c_seq (c_seq (c_fn R5_28) (c_blk 6 (loopK (c_seq (c_seq (c_fn R5_29) (c_cond (.t q19) c_skip (c_exit 6))) (c_seq (c_blk 7 (c_seq (c_fn R5_30) (c_cond (.t q20) (c_seq (c_fn R5_31) c_ret) c_skip))) (c_fn R5_32)))))) (c_seq (c_fn R5_33) c_ret)))))))))))))) [.t q21] [q0, q1]
noncomputable def R6_0 : RegF := fun call e M nx k => VV.onAny (.bool false) (e.setK q16 (.bool false) fun e => k e M nx)
noncomputable def R6_1 : RegF := fun call e M nx k => e.getK q0 fun v0 => e.getK q1 fun v1 => VV.onAny v0 (callV call s7 [v0, (.i (.ofNat 8))] M nx fun v2 M nx => v_add (.i (.ofNat 1)) v2 fun v3 => VV.onAny v1 (callV call s7 [v1, (.i (.ofNat 256))] M nx fun v4 M nx => VV.onAny v3 (VV.onAny v4 (e.setK q2 v3 fun e => e.setK q9 v4 fun e => k e M nx))))
noncomputable def R6_2 : RegF := fun call e M nx k => VV.onAny (.nils) (e.setK q3 (.nils) fun e => k e M nx)
noncomputable def R6_3 : RegF := fun call e M nx k => e.getK q3 fun v0 => e.getK q9 fun v1 => VV.onAny v0 (VV.onAny v1 (v_bld [(.i (.ofNat 0)), (.i (.ofNat 0)), (.i (.ofNat 0)), (.str []), (.str [])] [(0, 1, (.i (.ofNat 15))), (1, 1, v1)] fun v2 => v_bld [(.i (.ofNat 0)), (.i (.ofNat 0)), (.i (.ofNat 0)), (.i (.ofNat 0)), (.i (.ofNat 0)), (.i (.ofNat 0)), (.i (.ofNat 0)), (.str []), (.str [])] [(0, 1, (.i (.ofNat 10))), (4, 5, v2)] fun v3 => bslV 34 9 1 [(.i (.ofNat 0)), (.i (.ofNat 0)), (.i (.ofNat 0)), (.i (.ofNat 0)), (.i (.ofNat 0)), (.i (.ofNat 0)), (.i (.ofNat 0)), (.str []), (.str [])] [(0, 9, v3)] M nx fun v4 M nx => appV 34 9 88 v0 v4 M nx fun v5 M nx => VV.onAny v5 (e.setK q3 v5 fun e => k e M nx)))
noncomputable def R6_4 : RegF := fun call e M nx k => e.getK q3 fun v0 => VV.onAny v0 (v_bld [(.i (.ofNat 0)), .nils] [(0, 1, (.i (.ofNat 3))), (1, 1, v0)] fun v1 => bslV 39 2 1 [(.i (.ofNat 0)), .nils] [(0, 2, v1)] M nx fun v2 M nx => v_bld [.nils, .nils, .nils, .nils, (.i (.ofNat 0)), (.i (.ofNat 0))] [(4, 1, (.i (.ofNat 8))), (5, 1, (.i (.ofNat 100000))), (1, 1, v2)] fun v3 => callV call s8 [v3, (.nils), (.i (.ofNat 200))] M nx fun v4 M nx => alV 45 [.nils, .nils, .nils, (.i (.ofNat 0))] M nx fun v5 M nx => stV M v5 v4 4 fun M => e.setK q5 v5 fun e => k e M nx)
noncomputable def R6_5 : RegF := fun call e M nx k => VV.onAny (.i (.ofNat 0)) (e.setK q6 (.i (.ofNat 0)) fun e => k e M nx)
noncomputable def R6_6 : RegF := fun call e M nx k => e.getK q5 fun v0 => e.getK q6 fun v1 => e.getK q2 fun v2 => v_fa v0 3 fun v3 => ldV M v3 1 false fun _ v4 => v_eq v4 (.i (.ofNat 0)) fun v5 => VV.onAny v5 (gdK v5 true .off M nx (fun j => v_mv v1 fun v => j v M nx) fun v6 M nx => gdK v5 true .off M nx (fun j => v_mv v2 fun v => j v M nx) fun v7 M nx => gdK v5 true .off M nx (fun j => v_eq v6 v7 fun v => j v M nx) fun v8 M nx => v_pick v5 v8 (.bool false) fun v9 => VV.onAny v9 (gdK v9 true .no M nx (fun j => callV call s12 [] M nx fun v M nx => j v M nx) fun v10 M nx => v_pick v9 v10 (.bool false) fun v11 => VV.onAny v11 (e.setK q16 v11 fun e => k e M nx)))
noncomputable def R6_7 : RegF := fun call e M nx k => VV.onAny (.i (.ofNat 0)) (e.setK q4 (.i (.ofNat 0)) fun e => k e M nx)
noncomputable def R6_8 : RegF := fun call e M nx k => e.getK q4 fun v0 => e.getK q5 fun v1 => VV.onAny v0 (v_fa v1 2 fun v2 => ldV M v2 1 false fun _ v3 => v_lenS v3 fun v4 => v_lt v0 v4 fun v5 => e.setK q13 v5 fun e => k e M nx)
noncomputable def R6_9 : RegF := fun call e M nx k => e.getK q4 fun v0 => VV.onAny v0 (v_add v0 (.i (.ofNat 1)) fun v1 => VV.onAny v1 (e.setK q4 v1 fun e => k e M nx))
noncomputable def R6_10 : RegF := fun call e M nx k => e.getK q5 fun v0 => e.getK q4 fun v1 => v_fa v0 2 fun v2 => ldV M v2 1 false fun _ v3 => VV.onAny v1 (v_ixS v3 v1 11 fun v4 => ldV M v4 11 true fun _ v5 => alV 62 [(.i (.ofNat 0)), (.i (.ofNat 0)), (.i (.ofNat 0)), (.i (.ofNat 0)), (.i (.ofNat 0)), (.i (.ofNat 0)), (.str []), (.str []), (.i (.ofNat 0)), (.i (.ofNat 0)), (.str [])] M nx fun v6 M nx => stV M v6 v5 11 fun M => e.setK q10 v6 fun e => k e M nx)
noncomputable def R6_11 : RegF := fun call e M nx k => e.getK q10 fun v0 => v_fa v0 1 fun v1 => ldV M v1 1 false fun _ v2 => v_eq v2 (.i (.ofNat 0)) fun v3 => VV.onAny v3 (gdK v3 true .off M nx (fun j => v_fa v0 3 fun v => j v M nx) fun v4 M nx => gdK v3 true .off M nx (fun j => v_fa v4 0 fun v => j v M nx) fun v5 M nx => gdK v3 true .off M nx (fun j => ldV M v5 1 false fun _ v => j v M nx) fun v6 M nx => gdK v3 true .off M nx (fun j => v_eq v6 (.i (.ofNat 16)) fun v => j v M nx) fun v7 M nx => v_pick v3 v7 (.bool false) fun v8 => e.setK q14 v8 fun e => k e M nx)
noncomputable def R6_12 : RegF := fun call e M nx k => e.getK q6 fun v0 => VV.onAny v0 (v_add v0 (.i (.ofNat 1)) fun v1 => VV.onAny v1 (e.setK q6 v1 fun e => k e M nx))
noncomputable def R6_13 : RegF := fun call e M nx k => e.getK q10 fun v0 => e.getK q6 fun v1 => e.getK q9 fun v2 => v_fa v0 8 fun v3 => ldV M v3 3 true fun _ v4 => VV.onAny v1 (v_mul (.i (.ofNat 1000)) v1 fun v5 => VV.onAny v2 (v_add v5 v2 fun v6 => v_bld [(.i (.ofNat 0)), (.i (.ofNat 0)), (.str [])] [(1, 1, v6)] fun v7 => v_aeq true [(0, .i), (1, .i), (2, .s)] v4 v7 fun v8 => e.setK q15 v8 fun e => k e M nx))
noncomputable def R6_14 : RegF := fun call e M nx k => VV.onAny (.bool false) (e.setK q16 (.bool false) fun e => k e M nx)
noncomputable def R6_15 : RegF := fun call e M nx k => VV.onAny (.i (.ofNat 0)) (e.setK q8 (.i (.ofNat 0)) fun e => k e M nx)
noncomputable def R6_16 : RegF := fun call e M nx k => e.getK q8 fun v0 => e.getK q2 fun v1 => VV.onAny v0 (VV.onAny v1 (v_lt v0 v1 fun v2 => e.setK q12 v2 fun e => k e M nx))
noncomputable def R6_17 : RegF := fun call e M nx k => e.getK q3 fun v0 => VV.onAny v0 (v_bld [(.i (.ofNat 0)), (.i (.ofNat 0)), (.i (.ofNat 0)), (.str []), (.str [])] [(0, 1, (.i (.ofNat 16)))] fun v1 => v_bld [(.i (.ofNat 0)), (.i (.ofNat 0)), (.i (.ofNat 0)), (.i (.ofNat 0)), (.i (.ofNat 0)), (.i (.ofNat 0)), (.i (.ofNat 0)), (.str []), (.str [])] [(0, 1, (.i (.ofNat 10))), (4, 5, v1)] fun v2 => bslV 34 9 1 [(.i (.ofNat 0)), (.i (.ofNat 0)), (.i (.ofNat 0)), (.i (.ofNat 0)), (.i (.ofNat 0)), (.i (.ofNat 0)), (.i (.ofNat 0)), (.str []), (.str [])] [(0, 9, v2)] M nx fun v3 M nx => appV 34 9 88 v0 v3 M nx fun v4 M nx => VV.onAny v4 (e.setK q3 v4 fun e => k e M nx))
noncomputable def R6_18 : RegF := fun call e M nx k => e.getK q8 fun v0 => VV.onAny v0 (v_add v0 (.i (.ofNat 1)) fun v1 => VV.onAny v1 (e.setK q8 v1 fun e => k e M nx))
noncomputable def R6_19 : RegF := fun call e M nx k => VV.onAny (.i (.ofNat 0)) (e.setK q7 (.i (.ofNat 0)) fun e => k e M nx)
noncomputable def R6_20 : RegF := fun call e M nx k => e.getK q7 fun v0 => e.getK q2 fun v1 => VV.onAny v0 (VV.onAny v1 (v_lt v0 v1 fun v2 => e.setK q11 v2 fun e => k e M nx))
noncomputable def R6_21 : RegF := fun call e M nx k => e.getK q3 fun v0 => e.getK q2 fun v1 => VV.onAny v0 (VV.onAny v1 (v_mul (.i (.ofNat 2)) v1 fun v2 => v_bld [(.i (.ofNat 0)), (.i (.ofNat 0)), (.i (.ofNat 0)), (.str []), (.str [])] [(0, 1, (.i (.ofNat 14))), (1, 1, v2)] fun v3 => v_bld [(.i (.ofNat 0)), (.i (.ofNat 0)), (.i (.ofNat 0)), (.i (.ofNat 0)), (.i (.ofNat 0)), (.i (.ofNat 0)), (.i (.ofNat 0)), (.str []), (.str [])] [(0, 1, (.i (.ofNat 10))), (4, 5, v3)] fun v4 => bslV 34 9 1 [(.i (.ofNat 0)), (.i (.ofNat 0)), (.i (.ofNat 0)), (.i (.ofNat 0)), (.i (.ofNat 0)), (.i (.ofNat 0)), (.i (.ofNat 0)), (.str []), (.str [])] [(0, 9, v4)] M nx fun v5 M nx => appV 34 9 88 v0 v5 M nx fun v6 M nx => VV.onAny v6 (e.setK q3 v6 fun e => k e M nx)))
noncomputable def R6_22 : RegF := fun call e M nx k => e.getK q7 fun v0 => VV.onAny v0 (v_add v0 (.i (.ofNat 1)) fun v1 => VV.onAny v1 (e.setK q7 v1 fun e => k e M nx))
noncomputable def S6 : List (P × I) := [(s0, q0), (s1, q1), (s5, q2), (s7, q3), (s12, q4), (s10, q5), (s11, q6), (s8, q7), (s9, q8), (s6, q9), (s13, q10), (s21, q11), (s33, q12), (s56, q13), (s72, q14), (s82, q15), (s4, q16)]
noncomputable def G6 : F2 := .mk (fun call e M nx k => R6_0 call e M nx fun e M nx => R6_1 call e M nx fun e M nx => R6_2 call e M nx fun e M nx => (fun (j0 : En → Mem → P → Bool) => R6_19 call e M nx fun e M nx => (fun (j8 : En → Mem → P → Bool) => loopK (fun call e M nx k => R6_20 call e M nx fun e M nx => e.getK q11 fun v => v.onB fun c => Bool.rec (k (.x 0) e M nx) (R6_21 call e M nx fun e M nx => R6_22 call e M nx fun e M nx => k .n e M nx) c) call e M nx fun ex e M nx => Ex.rec (j8 e M nx) (k .r e M nx) (fun id => Bool.rec (k (.x id) e M nx) (j8 e M nx) (Nat.beq id 0)) ex) fun e M nx => j0 e M nx) fun e M nx => (fun (j1 : En → Mem → P → Bool) => R6_15 call e M nx fun e M nx => (fun (j7 : En → Mem → P → Bool) => loopK (fun call e M nx k => R6_16 call e M nx fun e M nx => e.getK q12 fun v => v.onB fun c => Bool.rec (k (.x 2) e M nx) (R6_17 call e M nx fun e M nx => R6_18 call e M nx fun e M nx => k .n e M nx) c) call e M nx fun ex e M nx => Ex.rec (j7 e M nx) (k .r e M nx) (fun id => Bool.rec (k (.x id) e M nx) (j7 e M nx) (Nat.beq id 2)) ex) fun e M nx => j1 e M nx) fun e M nx => R6_3 call e M nx fun e M nx => R6_4 call e M nx fun e M nx => R6_5 call e M nx fun e M nx => (fun (j2 : En → Mem → P → Bool) => R6_7 call e M nx fun e M nx => (fun (j3 : En → Mem → P → Bool) => loopK (fun call e M nx k => R6_8 call e M nx fun e M nx => e.getK q13 fun v => v.onB fun c => Bool.rec (k (.x 4) e M nx) ((fun (j4 : En → Mem → P → Bool) => (fun (j5 : En → Mem → P → Bool) => R6_10 call e M nx fun e M nx => R6_11 call e M nx fun e M nx => (fun (j6 : En → Mem → P → Bool) => e.getK q14 fun v => v.onB fun c => Bool.rec (j6 e M nx) (R6_12 call e M nx fun e M nx => R6_13 call e M nx fun e M nx => e.getK q15 fun v => v.onB fun c => Bool.rec (j6 e M nx) (R6_14 call e M nx fun e M nx => k .r e M nx) c) c) fun e M nx => j5 e M nx) fun e M nx => j4 e M nx) fun e M nx => R6_9 call e M nx fun e M nx => k .n e M nx) c) call e M nx fun ex e M nx => Ex.rec (j3 e M nx) (k .r e M nx) (fun id => Bool.rec (k (.x id) e M nx) (j3 e M nx) (Nat.beq id 4)) ex) fun e M nx => j2 e M nx) fun e M nx => R6_6 call e M nx fun e M nx => k .r e M nx) [.t q16] [q0, q1]
noncomputable def G7 : F2 := .spec (lowS)
noncomputable def R8_0 : RegF := fun call e M nx k => e.getK q0 fun v0 => bxV 30 v0 M nx fun v1 M nx => alV 45 [.nils, .nils, .nils, (.i (.ofNat 0))] M nx fun v2 M nx => e.setK q4 v1 fun e => e.setK q3 v2 fun e => k e M nx
noncomputable def R8_1 : RegF := fun call e M nx k => e.getK q4 fun v0 => e.getK q1 fun v1 => e.getK q2 fun v2 => ldV M v0 6 true fun _ v3 => VV.onAny v1 (VV.onAny v2 (callV call s18 [v3, v1, v2] M nx fun v4 M nx => VV.onAny v4 (v_ext v4 0 fun v5 => v_ext v4 1 fun v6 => v_ext v4 2 fun v7 => v_ext v4 3 fun v8 => VV.onAny v5 (VV.onAny v6 (VV.onAny v7 (VV.onAny v8 (e.setK q5 v5 fun e => e.setK q6 v6 fun e => e.setK q7 v7 fun e => e.setK q8 v8 fun e => k e M nx)))))))
noncomputable def R8_2 : RegF := fun call e M nx k => e.getK q5 fun v0 => e.getK q6 fun v1 => e.getK q7 fun v2 => e.getK q8 fun v3 => e.getK q3 fun v4 => VV.onAny v0 (VV.onAny v1 (VV.onAny v2 (VV.onAny v3 (v_bld [.nils, .nils, .nils, (.i (.ofNat 0))] [(0, 1, v0), (1, 1, v1), (2, 1, v2), (3, 1, v3)] fun v5 => stV M v4 v5 4 fun M => k e M nx))))
noncomputable def S8 : List (P × I) := [(s0, q0), (s1, q1), (s2, q2), (s6, q3), (s3, q4), (s7, q5), (s8, q6), (s9, q7), (s10, q8)]
noncomputable def G8 : F2 := .mk (fun call e M nx k => R8_0 call e M nx fun e M nx => R8_1 call e M nx fun e M nx => R8_2 call e M nx fun e M nx => k .r e M nx) [.c q3 4 true] [q0, q1, q2]
noncomputable def R9_0 : RegF := fun call e M nx k => alV 48 [(.i (.ofNat 0)), (.i (.ofNat 0)), (.i (.ofNat 0))] M nx fun v0 M nx => e.setK q2 v0 fun e => k e M nx
noncomputable def R9_1 : RegF := fun call e M nx k => e.getK q0 fun v0 => e.getK q1 fun v1 => e.getK q2 fun v2 => VV.onAny v0 (VV.onAny v1 (v_bld [(.i (.ofNat 0)), (.i (.ofNat 0)), (.i (.ofNat 0))] [(0, 1, v0), (1, 1, (.i (.negSucc 0))), (2, 1, v1)] fun v3 => stV M v2 v3 3 fun M => k e M nx))
noncomputable def S9 : List (P × I) := [(s0, q0), (s1, q1), (s4, q2)]
noncomputable def G9 : F2 := .mk (fun call e M nx k => R9_0 call e M nx fun e M nx => R9_1 call e M nx fun e M nx => k .r e M nx) [.c q2 3 true] [q0, q1]
noncomputable def R10_0 : RegF := fun call e M nx k => alV 52 [(.i (.ofNat 0)), (.i (.ofNat 0)), (.i (.ofNat 0)), (.i (.ofNat 0)), (.i (.ofNat 0)), (.bool false)] M nx fun v0 M nx => VV.onAny (.bool false) (e.setK q3 v0 fun e => e.setK q6 (.bool false) fun e => k e M nx)
noncomputable def R10_1 : RegF := fun call e M nx k => e.getK q3 fun v0 => v_bld [(.i (.ofNat 0)), (.i (.ofNat 0)), (.i (.ofNat 0)), (.i (.ofNat 0)), (.i (.ofNat 0)), (.bool false)] [] fun v1 => stV M v0 v1 6 fun M => VV.onAny (.bool false) (e.setK q6 (.bool false) fun e => k e M nx)
noncomputable def R10_2 : RegF := fun call e M nx k => VV.onAny (.i (.ofNat 0)) (e.setK q2 (.i (.ofNat 0)) fun e => k e M nx)
noncomputable def R10_3 : RegF := fun call e M nx k => e.getK q2 fun v0 => e.getK q0 fun v1 => VV.onAny v0 (VV.onAny v1 (v_lenS v1 fun v2 => v_lt v0 v2 fun v3 => e.setK q4 v3 fun e => k e M nx))
noncomputable def R10_4 : RegF := fun call e M nx k => e.getK q0 fun v0 => e.getK q2 fun v1 => e.getK q1 fun v2 => VV.onAny v0 (VV.onAny v1 (v_ixS v0 v1 6 fun v3 => v_fa v3 0 fun v4 => ldV M v4 1 false fun _ v5 => VV.onAny v2 (v_eq v5 v2 fun v6 => e.setK q5 v6 fun e => k e M nx)))
noncomputable def R10_5 : RegF := fun call e M nx k => e.getK q2 fun v0 => VV.onAny v0 (v_add v0 (.i (.ofNat 1)) fun v1 => VV.onAny v1 (e.setK q2 v1 fun e => k e M nx))
noncomputable def R10_6 : RegF := fun call e M nx k => e.getK q0 fun v0 => e.getK q2 fun v1 => e.getK q3 fun v2 => VV.onAny v0 (VV.onAny v1 (v_ixS v0 v1 6 fun v3 => ldV M v3 6 true fun _ v4 => stV M v2 v4 6 fun M => VV.onAny (.bool true) (e.setK q6 (.bool true) fun e => k e M nx)))
noncomputable def S10 : List (P × I) := [(s0, q0), (s1, q1), (s6, q2), (s4, q3), (s10, q4), (s19, q5), (s5, q6)]
noncomputable def G10 : F2 := .mk (fun call e M nx k => R10_0 call e M nx fun e M nx => (fun (j0 : En → Mem → P → Bool) => R10_2 call e M nx fun e M nx => (fun (j1 : En → Mem → P → Bool) => loopK (fun call e M nx k => R10_3 call e M nx fun e M nx => e.getK q4 fun v => v.onB fun c => Bool.rec (k (.x 0) e M nx) (R10_4 call e M nx fun e M nx => e.getK q5 fun v => v.onB fun c => Bool.rec (R10_5 call e M nx fun e M nx => k .n e M nx) (R10_6 call e M nx fun e M nx => k .r e M nx) c) c) call e M nx fun ex e M nx => Ex.rec (j1 e M nx) (k .r e M nx) (fun id => Bool.rec (k (.x id) e M nx) (j1 e M nx) (Nat.beq id 0)) ex) fun e M nx => j0 e M nx) fun e M nx => R10_1 call e M nx fun e M nx => k .r e M nx) [.c q3 6 true, .t q6] [q0, q1]
noncomputable def R11_0 : RegF := fun call e M nx k => VV.onAny (.bool false) (e.setK q5 (.bool false) fun e => k e M nx)
noncomputable def R11_1 : RegF := fun call e M nx k => VV.onAny (.bool false) (e.setK q5 (.bool false) fun e => k e M nx)
noncomputable def R11_2 : RegF := fun call e M nx k => VV.onAny (.i (.ofNat 0)) (e.setK q2 (.i (.ofNat 0)) fun e => k e M nx)
noncomputable def R11_3 : RegF := fun call e M nx k => e.getK q2 fun v0 => e.getK q0 fun v1 => VV.onAny v0 (VV.onAny v1 (v_lenS v1 fun v2 => v_lt v0 v2 fun v3 => e.setK q3 v3 fun e => k e M nx))
noncomputable def R11_4 : RegF := fun call e M nx k => e.getK q0 fun v0 => e.getK q2 fun v1 => e.getK q1 fun v2 => VV.onAny v0 (VV.onAny v1 (v_ixS v0 v1 11 fun v3 => v_fa v3 8 fun v4 => v_fa v4 0 fun v5 => ldV M v5 1 false fun _ v6 => v_eq v6 (.i (.ofNat 23)) fun v7 => VV.onAny v7 (gdK v7 true .off M nx (fun j => v_mv v0 fun v => j v M nx) fun v8 M nx => gdK v7 true .off M nx (fun j => v_mv v1 fun v => j v M nx) fun v9 M nx => gdK v7 true .off M nx (fun j => v_ixS v8 v9 11 fun v => j v M nx) fun v10 M nx => gdK v7 true .off M nx (fun j => v_fa v10 2 fun v => j v M nx) fun v11 M nx => gdK v7 true .off M nx (fun j => ldV M v11 1 false fun _ v => j v M nx) fun v12 M nx => gdK v7 true .off M nx (fun j => v_eq v12 (.i (.ofNat 4)) fun v => j v M nx) fun v13 M nx => v_pick v7 v13 (.bool false) fun v14 => VV.onAny v14 (gdK v14 true .off M nx (fun j => v_mv v2 fun v => j v M nx) fun v15 M nx => gdK v14 true .off M nx (fun j => v_lt v15 (.i (.ofNat 0)) fun v => j v M nx) fun v16 M nx => gdK v14 true .off M nx (fun j => v_mv v16 fun v => j v M nx) fun v17 M nx => gdK v17 false .off M nx (fun j => v_mv v0 fun v => j v M nx) fun v18 M nx => gdK v17 false .off M nx (fun j => v_mv v1 fun v => j v M nx) fun v19 M nx => gdK v17 false .off M nx (fun j => v_ixS v18 v19 11 fun v => j v M nx) fun v20 M nx => gdK v17 false .off M nx (fun j => v_fa v20 1 fun v => j v M nx) fun v21 M nx => gdK v17 false .off M nx (fun j => ldV M v21 1 false fun _ v => j v M nx) fun v22 M nx => gdK v17 false .off M nx (fun j => v_mv v2 fun v => j v M nx) fun v23 M nx => gdK v17 false .off M nx (fun j => v_eq v22 v23 fun v => j v M nx) fun v24 M nx => gdK v14 true .off M nx (fun j => v_pick v17 (.bool true) v24 fun v => j v M nx) fun v25 M nx => v_pick v14 v25 (.bool false) fun v26 => e.setK q4 v26 fun e => k e M nx))))
noncomputable def R11_5 : RegF := fun call e M nx k => e.getK q2 fun v0 => VV.onAny v0 (v_add v0 (.i (.ofNat 1)) fun v1 => VV.onAny v1 (e.setK q2 v1 fun e => k e M nx))
noncomputable def R11_6 : RegF := fun call e M nx k => VV.onAny (.bool true) (e.setK q5 (.bool true) fun e => k e M nx)
noncomputable def S11 : List (P × I) := [(s0, q0), (s1, q1), (s5, q2), (s9, q3), (s39, q4), (s4, q5)]
noncomputable def G11 : F2 := .mk (fun call e M nx k => R11_0 call e M nx fun e M nx => (fun (j0 : En → Mem → P → Bool) => R11_2 call e M nx fun e M nx => (fun (j1 : En → Mem → P → Bool) => loopK (fun call e M nx k => R11_3 call e M nx fun e M nx => e.getK q3 fun v => v.onB fun c => Bool.rec (k (.x 0) e M nx) (R11_4 call e M nx fun e M nx => e.getK q4 fun v => v.onB fun c => Bool.rec (R11_5 call e M nx fun e M nx => k .n e M nx) (R11_6 call e M nx fun e M nx => k .r e M nx) c) c) call e M nx fun ex e M nx => Ex.rec (j1 e M nx) (k .r e M nx) (fun id => Bool.rec (k (.x id) e M nx) (j1 e M nx) (Nat.beq id 0)) ex) fun e M nx => j0 e M nx) fun e M nx => R11_1 call e M nx fun e M nx => k .r e M nx) [.t q5] [q0, q1]
noncomputable def R12_0 : RegF := fun call e M nx k => VV.onAny (.bool false) (e.setK q4 (.bool false) fun e => k e M nx)
noncomputable def R12_1 : RegF := fun call e M nx k => callV call s19 [] M nx fun v0 M nx => v_bld [(.i (.ofNat 0)), (.i (.ofNat 0)), (.i (.ofNat 0))] [(0, 1, (.i (.ofNat 2))), (1, 1, (.i (.negSucc 0)))] fun v1 => bslV 48 3 1 [(.i (.ofNat 0)), (.i (.ofNat 0)), (.i (.ofNat 0))] [(0, 3, v1)] M nx fun v2 M nx => callV call s18 [v0, v2, (.i (.ofNat 8))] M nx fun v3 M nx => VV.onAny v3 (v_ext v3 0 fun v4 => v_ext v3 1 fun v5 => v_ext v3 2 fun v6 => v_ext v3 3 fun v7 => VV.onAny v4 (VV.onAny v5 (VV.onAny v6 (VV.onAny v7 (e.setK q2 v4 fun e => e.setK q0 v5 fun e => e.setK q1 v7 fun e => k e M nx)))))
noncomputable def R12_2 : RegF := fun call e M nx k => e.getK q1 fun v0 => e.getK q2 fun v1 => e.getK q0 fun v2 => VV.onAny v0 (v_ne v0 (.i (.ofNat 0)) fun v3 => VV.onAny v3 (gdK v3 false .off M nx (fun j => v_mv v1 fun v => j v M nx) fun v4 M nx => gdK v3 false .off M nx (fun j => v_bld [(.i (.ofNat 0)), (.bool false)] [(0, 1, (.i (.ofNat 1)))] fun v => j v M nx) fun v5 M nx => gdK v3 false .off M nx (fun j => v_bld [(.i (.ofNat 0)), (.bool false)] [(0, 1, (.i (.ofNat 1)))] fun v => j v M nx) fun v6 M nx => gdK v3 false .off M nx (fun j => v_bld [(.i (.ofNat 0)), (.bool false)] [(0, 1, (.i (.ofNat 1)))] fun v => j v M nx) fun v7 M nx => gdK v3 false .off M nx (fun j => v_bld [(.i (.ofNat 0)), (.bool false)] [(0, 1, (.i (.ofNat 1)))] fun v => j v M nx) fun v8 M nx => gdK v3 false .off M nx (fun j => v_bld [(.i (.ofNat 0)), (.bool false)] [(0, 1, (.i (.ofNat 1)))] fun v => j v M nx) fun v9 M nx => gdK v3 false .off M nx (fun j => v_bld [(.i (.ofNat 0)), (.bool false)] [] fun v => j v M nx) fun v10 M nx => gdK v3 false .off M nx (fun j => v_bld [(.i (.ofNat 0)), (.bool false)] [] fun v => j v M nx) fun v11 M nx => gdK v3 false .off M nx (fun j => v_bld [(.i (.ofNat 0)), (.bool false)] [] fun v => j v M nx) fun v12 M nx => gdK v3 false .no M nx (fun j => bslV 67 2 8 ([(.i (.ofNat 0)), (.bool false), (.i (.ofNat 0)), (.bool false), (.i (.ofNat 0)), (.bool false), (.i (.ofNat 0)), (.bool false), (.i (.ofNat 0)), (.bool false), (.i (.ofNat 0)), (.bool false), (.i (.ofNat 0)), (.bool false), (.i (.ofNat 0)), (.bool false)]) [(0, 2, v5), (2, 2, v6), (4, 2, v7), (6, 2, v8), (8, 2, v9), (10, 2, v10), (12, 2, v11), (14, 2, v12)] M nx fun v M nx => j v M nx) fun v13 M nx => gdK v3 false .no M nx (fun j => callV call s20 [v4, v13] M nx fun v M nx => j v M nx) fun v14 M nx => gdK v3 false .off M nx (fun j => v_not v14 fun v => j v M nx) fun v15 M nx => v_pick v3 (.bool true) v15 fun v16 => VV.onAny v16 (gdK v16 false .off M nx (fun j => v_mv v2 fun v => j v M nx) fun v17 M nx => gdK v16 false .off M nx (fun j => v_lenS v17 fun v => j v M nx) fun v18 M nx => gdK v16 false .off M nx (fun j => v_ne v18 (.i (.ofNat 1)) fun v => j v M nx) fun v19 M nx => v_pick v16 (.bool true) v19 fun v20 => e.setK q3 v20 fun e => k e M nx)))
noncomputable def R12_3 : RegF := fun call e M nx k => e.getK q0 fun v0 => VV.onAny v0 (v_ixS v0 (.i (.ofNat 0)) 6 fun v1 => ldV M v1 6 true fun _ v2 => callV call s21 [v2] M nx fun v3 M nx => v_not v3 fun v4 => VV.onAny v4 (gdK v4 true .off M nx (fun j => v_mv v0 fun v => j v M nx) fun v5 M nx => gdK v4 true .off M nx (fun j => v_ixS v5 (.i (.ofNat 0)) 6 fun v => j v M nx) fun v6 M nx => gdK v4 true .off M nx (fun j => v_fa v6 3 fun v => j v M nx) fun v7 M nx => gdK v4 true .off M nx (fun j => ldV M v7 1 false fun _ v => j v M nx) fun v8 M nx => gdK v4 true .off M nx (fun j => v_eq v8 (.i (.ofNat 8)) fun v => j v M nx) fun v9 M nx => v_pick v4 v9 (.bool false) fun v10 => VV.onAny v10 (gdK v10 true .off M nx (fun j => v_bld [(.i (.ofNat 0)), .nils, .nils, .nils, .nils] [] fun v => j v M nx) fun v11 M nx => gdK v10 true .no M nx (fun j => callV call s22 [v11] M nx fun v M nx => j v M nx) fun v12 M nx => v_pick v10 v12 (.bool false) fun v13 => VV.onAny v13 (e.setK q4 v13 fun e => k e M nx))))
noncomputable def R12_4 : RegF := fun call e M nx k => VV.onAny (.bool false) (e.setK q4 (.bool false) fun e => k e M nx)
noncomputable def S12 : List (P × I) := [(s2, q0), (s4, q1), (s1, q2), (s34, q3), (s0, q4)]
noncomputable def G12 : F2 := .mk (fun call e M nx k => R12_0 call e M nx fun e M nx => R12_1 call e M nx fun e M nx => R12_2 call e M nx fun e M nx => e.getK q3 fun v => v.onB fun c => Bool.rec (R12_3 call e M nx fun e M nx => k .r e M nx) (R12_4 call e M nx fun e M nx => k .r e M nx) c) [.t q4] []
noncomputable def R14_0 : RegF := fun call e M nx k => e.getK q0 fun v0 => bxV 30 v0 M nx fun v1 M nx => VV.onAny (.nil) (e.setK q1 v1 fun e => e.setK q5 (.nil) fun e => k e M nx)
noncomputable def R14_1 : RegF := fun call e M nx k => e.getK q1 fun v0 => ldV M v0 6 true fun _ v1 => callV call s23 [v1] M nx fun v2 M nx => VV.onAny v2 (v_ext v2 0 fun v3 => v_ext v2 1 fun v4 => VV.onAny v3 (VV.onAny v4 (e.setK q4 v3 fun e => e.setK q2 v4 fun e => k e M nx)))
noncomputable def R14_2 : RegF := fun call e M nx k => e.getK q2 fun v0 => VV.onAny v0 (v_ne v0 (.i (.ofNat 0)) fun v1 => e.setK q3 v1 fun e => k e M nx)
noncomputable def R14_3 : RegF := fun call e M nx k => e.getK q4 fun v0 => VV.onAny v0 (VV.onAny v0 (e.setK q5 v0 fun e => k e M nx))
noncomputable def R14_4 : RegF := fun call e M nx k => VV.onAny (.nil) (e.setK q5 (.nil) fun e => k e M nx)
noncomputable def S14 : List (P × I) := [(s0, q0), (s1, q1), (s4, q2), (s11, q3), (s3, q4), (s2, q5)]
noncomputable def G14 : F2 := .mk (fun call e M nx k => R14_0 call e M nx fun e M nx => R14_1 call e M nx fun e M nx => R14_2 call e M nx fun e M nx => e.getK q3 fun v => v.onB fun c => Bool.rec (R14_3 call e M nx fun e M nx => k .r e M nx) (R14_4 call e M nx fun e M nx => k .r e M nx) c) [.t q5] [q0]
noncomputable def R15_0 : RegF := fun call e M nx k => alV 67 [(.i (.ofNat 0)), (.bool false)] M nx fun v0 M nx => e.setK q2 v0 fun e => k e M nx
noncomputable def R15_1 : RegF := fun call e M nx k => e.getK q0 fun v0 => VV.onAny v0 (v_nqP false v0 fun v1 => VV.onAny v1 (gdK v1 false .off M nx (fun j => v_mv v0 fun v => j v M nx) fun v2 M nx => gdK v1 false .off M nx (fun j => v_nck v2 fun v => j v M nx) fun v3 M nx => gdK v1 false .off M nx (fun j => v_fa v3 1 fun v => j v M nx) fun v4 M nx => gdK v1 false .off M nx (fun j => ldV M v4 1 false fun _ v => j v M nx) fun v5 M nx => gdK v1 false .off M nx (fun j => v_eq v5 (.i (.ofNat 16777215)) fun v => j v M nx) fun v6 M nx => v_pick v1 (.bool true) v6 fun v7 => e.setK q6 v7 fun e => k e M nx))
noncomputable def R15_2 : RegF := fun call e M nx k => e.getK q0 fun v0 => VV.onAny v0 (v_nck v0 fun v1 => v_fa v1 21 fun v2 => stV M v2 (.bool false) 1 fun M => k e M nx)
noncomputable def R15_3 : RegF := fun call e M nx k => e.getK q0 fun v0 => VV.onAny v0 (callV call s28 [v0] M nx fun v1 M nx => alV 67 [(.i (.ofNat 0)), (.bool false)] M nx fun v2 M nx => stV M v2 v1 2 fun M => e.setK q23 v2 fun e => k e M nx)
noncomputable def R15_4 : RegF := fun call e M nx k => e.getK q0 fun v0 => (fun M0 => VV.onAny v0 (v_nck v0 fun v1 => v_fa v1 9 fun v2 => ldV M v2 1 false fun _ v3 => VV.onAny v0 (v_nck v0 fun v4 => v_fa v4 1 fun v5 => ldV M v5 1 false fun _ v6 => callV call s32 [v3, v6] M nx fun v7 M nx => Bool.rec false (k e M nx) (keptB M0 M [])))) M
noncomputable def R15_5 : RegF := fun call e M nx k => e.getK q0 fun v0 => VV.onAny v0 (v_nck v0 fun v1 => v_fa v1 1 fun v2 => ldV M v2 1 false fun _ v3 => v_add v3 (.i (.ofNat 1)) fun v4 => v_nck v0 fun v5 => v_fa v5 1 fun v6 => stV M v6 v4 1 fun M => k e M nx)
noncomputable def R15_6 : RegF := fun call e M nx k => e.getK q23 fun v0 => e.getK q2 fun v1 => ldV M v0 2 true fun _ v2 => stV M v1 v2 2 fun M => k e M nx
noncomputable def R15_7 : RegF := fun call e M nx k => e.getK q0 fun v0 => VV.onAny v0 (v_nck v0 fun v1 => v_fa v1 21 fun v2 => ldV M v2 1 false fun _ v3 => VV.onAny v3 (gdK v3 false .off M nx (fun j => v_mv v0 fun v => j v M nx) fun v4 M nx => gdK v3 false .off M nx (fun j => v_nck v4 fun v => j v M nx) fun v5 M nx => gdK v3 false .off M nx (fun j => v_fa v5 2 fun v => j v M nx) fun v6 M nx => gdK v3 false .off M nx (fun j => ldV M v6 1 false fun _ v => j v M nx) fun v7 M nx => gdK v3 false .no M nx (fun j => callV call s29 [v7, (.fn s30 [] [])] M nx fun v M nx => j v M nx) fun v8 M nx => gdK v3 false .off M nx (fun j => v_not v8 fun v => j v M nx) fun v9 M nx => v_pick v3 (.bool true) v9 fun v10 => e.setK q22 v10 fun e => k e M nx))
noncomputable def R15_8 : RegF := fun call e M nx k => e.getK q0 fun v0 => (fun M0 => VV.onAny v0 (v_nck v0 fun v1 => v_fa v1 9 fun v2 => ldV M v2 1 false fun _ v3 => VV.onAny v0 (v_nck v0 fun v4 => v_fa v4 1 fun v5 => ldV M v5 1 false fun _ v6 => callV call s31 [v3, v6] M nx fun v7 M nx => Bool.rec false (k e M nx) (keptB M0 M [])))) M
noncomputable def R15_9 : RegF := fun call e M nx k => e.getK q1 fun v0 => VV.onAny v0 (v_lenS v0 fun v1 => VV.onAny (.i (.ofNat 0)) (e.setK q20 v0 fun e => e.setK q18 v1 fun e => e.setK q5 (.i (.ofNat 0)) fun e => k e M nx))
noncomputable def R15_10 : RegF := fun call e M nx k => e.getK q5 fun v0 => e.getK q18 fun v1 => v_lt v0 v1 fun v2 => e.setK q19 v2 fun e => k e M nx
noncomputable def R15_11 : RegF := fun call e M nx k => e.getK q20 fun v0 => e.getK q5 fun v1 => v_ixS v0 v1 3 fun v2 => ldV M v2 3 true fun _ v3 => alV 48 [(.i (.ofNat 0)), (.i (.ofNat 0)), (.i (.ofNat 0))] M nx fun v4 M nx => stV M v4 v3 3 fun M => e.setK q21 v4 fun e => k e M nx
noncomputable def R15_12 : RegF := fun call e M nx k => e.getK q0 fun v0 => e.getK q21 fun v1 => VV.onAny v0 (ldV M v1 3 true fun _ v2 => callV call s27 [v0, v2] M nx fun v3 M nx => k e M nx)
noncomputable def R15_13 : RegF := fun call e M nx k => e.getK q5 fun v0 => v_add v0 (.i (.ofNat 1)) fun v1 => VV.onAny v1 (e.setK q5 v1 fun e => k e M nx)
noncomputable def R15_14 : RegF := fun call e M nx k => e.getK q0 fun v0 => VV.onAny v0 (v_nck v0 fun v1 => v_fa v1 8 fun v2 => ldV M v2 1 false fun _ v3 => v_lenS v3 fun v4 => VV.onAny (.i (.ofNat 0)) (e.setK q16 v3 fun e => e.setK q14 v4 fun e => e.setK q4 (.i (.ofNat 0)) fun e => k e M nx))
noncomputable def R15_15 : RegF := fun call e M nx k => e.getK q4 fun v0 => e.getK q14 fun v1 => v_lt v0 v1 fun v2 => e.setK q15 v2 fun e => k e M nx
noncomputable def R15_16 : RegF := fun call e M nx k => e.getK q16 fun v0 => e.getK q4 fun v1 => v_ixS v0 v1 1 fun v2 => ldV M v2 1 false fun _ v3 => VV.onAny v3 (e.setK q17 v3 fun e => k e M nx)
noncomputable def R15_17 : RegF := fun call e M nx k => e.getK q17 fun v0 => e.getK q0 fun v1 => VV.onAny v0 (VV.onAny v1 (v_nck v1 fun v2 => v_fa v2 1 fun v3 => ldV M v3 1 false fun _ v4 => callV call s26 [v0, v4] M nx fun v5 M nx => k e M nx))
noncomputable def R15_18 : RegF := fun call e M nx k => e.getK q4 fun v0 => v_add v0 (.i (.ofNat 1)) fun v1 => VV.onAny v1 (e.setK q4 v1 fun e => k e M nx)
noncomputable def R15_19 : RegF := fun call e M nx k => e.getK q0 fun v0 => VV.onAny v0 (v_nck v0 fun v1 => v_fa v1 1 fun v2 => ldV M v2 1 false fun _ v3 => v_lt (.i (.ofNat 0)) v3 fun v4 => e.setK q7 v4 fun e => k e M nx)
noncomputable def R15_20 : RegF := fun call e M nx k => e.getK q0 fun v0 => VV.onAny v0 (v_nck v0 fun v1 => v_fa v1 7 fun v2 => ldV M v2 1 false fun _ v3 => callV call s24 [v3] M nx fun v4 M nx => VV.onAny v4 (v_ext v4 0 fun v5 => v_ext v4 1 fun v6 => VV.onAny v5 (VV.onAny v6 (e.setK q8 v5 fun e => k e M nx))))
noncomputable def R15_21 : RegF := fun call e M nx k => e.getK q0 fun v0 => VV.onAny v0 (v_mkf s25 [v0] [] fun v1 => VV.onAny v1 (e.setK q12 v1 fun e => k e M nx))
noncomputable def R15_22 : RegF := fun call e M nx k => e.getK q8 fun v0 => VV.onAny v0 (v_lenS v0 fun v1 => VV.onAny (.i (.ofNat 0)) (e.setK q11 v0 fun e => e.setK q9 v1 fun e => e.setK q3 (.i (.ofNat 0)) fun e => k e M nx))
noncomputable def R15_23 : RegF := fun call e M nx k => e.getK q3 fun v0 => e.getK q9 fun v1 => v_lt v0 v1 fun v2 => e.setK q10 v2 fun e => k e M nx
noncomputable def R15_24 : RegF := fun call e M nx k => e.getK q11 fun v0 => e.getK q3 fun v1 => v_ixS v0 v1 1 fun v2 => ldV M v2 1 false fun _ v3 => VV.onAny v3 (e.setK q13 v3 fun e => k e M nx)
noncomputable def R15_25 : RegF := fun call e M nx k => e.getK q12 fun v0 => e.getK q13 fun v1 => VV.onAny v0 (VV.onAny v1 (cvV call v0 [v1] M nx fun v2 M nx => k e M nx))
noncomputable def R15_26 : RegF := fun call e M nx k => e.getK q3 fun v0 => v_add v0 (.i (.ofNat 1)) fun v1 => VV.onAny v1 (e.setK q3 v1 fun e => k e M nx)
noncomputable def R15_27 : RegF := fun call e M nx k => e.getK q2 fun v0 => v_bld [(.i (.ofNat 0)), (.bool false)] [(0, 1, (.i (.negSucc 0)))] fun v1 => stV M v0 v1 2 fun M => k e M nx
noncomputable def S15 : List (P × I) := [(s0, q0), (s1, q1), (s4, q2), (s45, q3), (s58, q4), (s71, q5), (s23, q6), (s32, q7), (s5, q8), (s44, q9), (s46, q10), (s43, q11), (s7, q12), (s9, q13), (s57, q14), (s59, q15), (s56, q16), (s11, q17), (s70, q18), (s72, q19), (s69, q20), (s13, q21), (s92, q22), (s14, q23)]
noncomputable def G15 : F2 := .mk (fun call e M nx k => R15_0 call e M nx fun e M nx => R15_1 call e M nx fun e M nx => e.getK q6 fun v => v.onB fun c => Bool.rec (R15_2 call e M nx fun e M nx => (fun (j0 : En → Mem → P → Bool) => R15_19 call e M nx fun e M nx => (fun (j7 : En → Mem → P → Bool) => e.getK q7 fun v => v.onB fun c => Bool.rec (j7 e M nx) (R15_20 call e M nx fun e M nx => R15_21 call e M nx fun e M nx => R15_22 call e M nx fun e M nx => (fun (j8 : En → Mem → P → Bool) => loopK (fun call e M nx k => R15_23 call e M nx fun e M nx => e.getK q10 fun v => v.onB fun c => Bool.rec (k (.x 0) e M nx) (R15_24 call e M nx fun e M nx => R15_25 call e M nx fun e M nx => R15_26 call e M nx fun e M nx => k .n e M nx) c) call e M nx fun ex e M nx => Ex.rec (j8 e M nx) (k .r e M nx) (fun id => Bool.rec (k (.x id) e M nx) (j8 e M nx) (Nat.beq id 0)) ex) fun e M nx => j7 e M nx) c) fun e M nx => j0 e M nx) fun e M nx => (fun (j1 : En → Mem → P → Bool) => R15_14 call e M nx fun e M nx => (fun (j6 : En → Mem → P → Bool) => loopK (fun call e M nx k => R15_15 call e M nx fun e M nx => e.getK q15 fun v => v.onB fun c => Bool.rec (k (.x 2) e M nx) (R15_16 call e M nx fun e M nx => R15_17 call e M nx fun e M nx => R15_18 call e M nx fun e M nx => k .n e M nx) c) call e M nx fun ex e M nx => Ex.rec (j6 e M nx) (k .r e M nx) (fun id => Bool.rec (k (.x id) e M nx) (j6 e M nx) (Nat.beq id 2)) ex) fun e M nx => j1 e M nx) fun e M nx => (fun (j2 : En → Mem → P → Bool) => R15_9 call e M nx fun e M nx => (fun (j5 : En → Mem → P → Bool) => loopK (fun call e M nx k => R15_10 call e M nx fun e M nx => e.getK q19 fun v => v.onB fun c => Bool.rec (k (.x 4) e M nx) (R15_11 call e M nx fun e M nx => R15_12 call e M nx fun e M nx => R15_13 call e M nx fun e M nx => k .n e M nx) c) call e M nx fun ex e M nx => Ex.rec (j5 e M nx) (k .r e M nx) (fun id => Bool.rec (k (.x id) e M nx) (j5 e M nx) (Nat.beq id 4)) ex) fun e M nx => j2 e M nx) fun e M nx => R15_3 call e M nx fun e M nx => (fun (j3 : En → Mem → P → Bool) => R15_7 call e M nx fun e M nx => (fun (j4 : En → Mem → P → Bool) => e.getK q22 fun v => v.onB fun c => Bool.rec (j4 e M nx) (R15_8 call e M nx fun e M nx => j4 e M nx) c) fun e M nx => j3 e M nx) fun e M nx => R15_4 call e M nx fun e M nx => R15_5 call e M nx fun e M nx => R15_6 call e M nx fun e M nx => k .r e M nx) (R15_27 call e M nx fun e M nx => k .r e M nx) c) [.c q2 2 true] [q0, q1]
noncomputable def R16_0 : RegF := fun call e M nx k => VV.onAny (.nils) (e.setK q6 (.nils) fun e => k e M nx)
noncomputable def R16_1 : RegF := fun call e M nx k => VV.onAny (.nils) (e.setK q3 (.nils) fun e => k e M nx)
noncomputable def R16_2 : RegF := fun call e M nx k => e.getK q3 fun v0 => VV.onAny v0 (VV.onAny v0 (e.setK q6 v0 fun e => k e M nx))
noncomputable def R16_3 : RegF := fun call e M nx k => VV.onAny (.i (.ofNat 0)) (e.setK q2 (.i (.ofNat 0)) fun e => k e M nx)
noncomputable def R16_4 : RegF := fun call e M nx k => e.getK q2 fun v0 => e.getK q0 fun v1 => VV.onAny v0 (VV.onAny v1 (v_lenS v1 fun v2 => v_lt v0 v2 fun v3 => e.setK q4 v3 fun e => k e M nx))
noncomputable def R16_5 : RegF := fun call e M nx k => e.getK q2 fun v0 => VV.onAny v0 (v_add v0 (.i (.ofNat 1)) fun v1 => VV.onAny v1 (e.setK q2 v1 fun e => k e M nx))
noncomputable def R16_6 : RegF := fun call e M nx k => e.getK q0 fun v0 => e.getK q2 fun v1 => e.getK q1 fun v2 => VV.onAny v0 (VV.onAny v1 (v_ixS v0 v1 3 fun v3 => v_fa v3 0 fun v4 => ldV M v4 1 false fun _ v5 => VV.onAny v2 (v_eq v5 v2 fun v6 => e.setK q5 v6 fun e => k e M nx)))
noncomputable def R16_7 : RegF := fun call e M nx k => e.getK q3 fun v0 => e.getK q0 fun v1 => e.getK q2 fun v2 => VV.onAny v0 (VV.onAny v1 (VV.onAny v2 (v_ixS v1 v2 3 fun v3 => ldV M v3 3 true fun _ v4 => bslV 48 3 1 [(.i (.ofNat 0)), (.i (.ofNat 0)), (.i (.ofNat 0))] [(0, 3, v4)] M nx fun v5 M nx => appV 48 3 24 v0 v5 M nx fun v6 M nx => VV.onAny v6 (e.setK q3 v6 fun e => k e M nx))))
noncomputable def S16 : List (P × I) := [(s0, q0), (s1, q1), (s6, q2), (s5, q3), (s10, q4), (s19, q5), (s4, q6)]
noncomputable def G16 : F2 := .mk (fun call e M nx k => R16_0 call e M nx fun e M nx => R16_1 call e M nx fun e M nx => (fun (j0 : En → Mem → P → Bool) => R16_3 call e M nx fun e M nx => (fun (j1 : En → Mem → P → Bool) => loopK (fun call e M nx k => R16_4 call e M nx fun e M nx => e.getK q4 fun v => v.onB fun c => Bool.rec (k (.x 0) e M nx) ((fun (j2 : En → Mem → P → Bool) => (fun (j3 : En → Mem → P → Bool) => R16_6 call e M nx fun e M nx => (fun (j4 : En → Mem → P → Bool) => e.getK q5 fun v => v.onB fun c => Bool.rec (j4 e M nx) (R16_7 call e M nx fun e M nx => j4 e M nx) c) fun e M nx => j3 e M nx) fun e M nx => j2 e M nx) fun e M nx => R16_5 call e M nx fun e M nx => k .n e M nx) c) call e M nx fun ex e M nx => Ex.rec (j1 e M nx) (k .r e M nx) (fun id => Bool.rec (k (.x id) e M nx) (j1 e M nx) (Nat.beq id 0)) ex) fun e M nx => j0 e M nx) fun e M nx => R16_2 call e M nx fun e M nx => k .r e M nx) [.t q6] [q0, q1]
noncomputable def R17_0 : RegF := fun call e M nx k => VV.onAny (.nils) (e.setK q10 (.nils) fun e => k e M nx)
noncomputable def R17_1 : RegF := fun call e M nx k => e.getK q0 fun v0 => VV.onAny v0 (v_nqP false v0 fun v1 => e.setK q4 v1 fun e => k e M nx)
noncomputable def R17_2 : RegF := fun call e M nx k => VV.onAny (.nils) (e.setK q2 (.nils) fun e => k e M nx)
noncomputable def R17_3 : RegF := fun call e M nx k => VV.onAny (.nils) (e.setK q3 (.nils) fun e => k e M nx)
noncomputable def R17_4 : RegF := fun call e M nx k => e.getK q2 fun v0 => e.getK q3 fun v1 => e.getK q0 fun v2 => VV.onAny v0 (VV.onAny v1 (VV.onAny v2 (v_nck v2 fun v3 => v_fa v3 5 fun v4 => ldV M v4 1 false fun _ v5 => callV call s35 [v5] M nx fun v6 M nx => callV call s34 [v0, v1, v6] M nx fun v7 M nx => VV.onAny v7 (e.setK q10 v7 fun e => k e M nx))))
noncomputable def R17_5 : RegF := fun call e M nx k => e.getK q0 fun v0 => VV.onAny v0 (v_nck v0 fun v1 => v_fa v1 2 fun v2 => ldV M v2 1 false fun _ v3 => v_lenS v3 fun v4 => VV.onAny (.i (.ofNat 0)) (e.setK q7 v3 fun e => e.setK q5 v4 fun e => e.setK q1 (.i (.ofNat 0)) fun e => k e M nx))
noncomputable def R17_6 : RegF := fun call e M nx k => e.getK q1 fun v0 => e.getK q5 fun v1 => v_lt v0 v1 fun v2 => e.setK q6 v2 fun e => k e M nx
noncomputable def R17_7 : RegF := fun call e M nx k => e.getK q1 fun v0 => e.getK q7 fun v1 => VV.onAny v0 (v_ixS v1 v0 21 fun v2 => ldV M v2 21 true fun _ v3 => alV 109 (rep 9 (.i (.ofNat 0)) ++ [(.bool false), (.i (.ofNat 0)), (.i (.ofNat 0)), (.i (.ofNat 0)), (.str []), (.bool false), (.i (.ofNat 0)), (.i (.ofNat 0)), (.i (.ofNat 0)), (.i (.ofNat 0)), (.i (.ofNat 0)), .nils]) M nx fun v4 M nx => VV.onAny v0 (stV M v4 v3 21 fun M => e.setK q8 v4 fun e => e.setK q9 v0 fun e => k e M nx))
noncomputable def R17_8 : RegF := fun call e M nx k => e.getK q2 fun v0 => e.getK q8 fun v1 => VV.onAny v0 (v_fa v1 2 fun v2 => ldV M v2 3 true fun _ v3 => bslV 73 3 1 [(.i (.ofNat 0)), (.i (.ofNat 0)), (.i (.ofNat 0))] [(0, 3, v3)] M nx fun v4 M nx => appV 73 3 24 v0 v4 M nx fun v5 M nx => VV.onAny v5 (e.setK q2 v5 fun e => k e M nx))
noncomputable def R17_9 : RegF := fun call e M nx k => e.getK q3 fun v0 => e.getK q0 fun v1 => e.getK q9 fun v2 => VV.onAny v0 (VV.onAny v1 (v_nck v1 fun v3 => v_fa v3 5 fun v4 => ldV M v4 1 false fun _ v5 => VV.onAny v2 (callV call s33 [v5, v2] M nx fun v6 M nx => bslV 3 1 1 [(.i (.ofNat 0))] [(0, 1, v6)] M nx fun v7 M nx => appV 3 1 8 v0 v7 M nx fun v8 M nx => VV.onAny v8 (e.setK q3 v8 fun e => k e M nx))))
noncomputable def R17_10 : RegF := fun call e M nx k => e.getK q1 fun v0 => v_add v0 (.i (.ofNat 1)) fun v1 => VV.onAny v1 (e.setK q1 v1 fun e => k e M nx)
noncomputable def R17_11 : RegF := fun call e M nx k => VV.onAny (.nils) (e.setK q10 (.nils) fun e => k e M nx)
noncomputable def S17 : List (P × I) := [(s0, q0), (s14, q1), (s3, q2), (s4, q3), (s8, q4), (s13, q5), (s15, q6), (s12, q7), (s6, q8), (s5, q9), (s2, q10)]
noncomputable def G17 : F2 := .mk (fun call e M nx k => R17_0 call e M nx fun e M nx => R17_1 call e M nx fun e M nx => e.getK q4 fun v => v.onB fun c => Bool.rec (R17_2 call e M nx fun e M nx => R17_3 call e M nx fun e M nx => (fun (j0 : En → Mem → P → Bool) => R17_5 call e M nx fun e M nx => (fun (j1 : En → Mem → P → Bool) => loopK (fun call e M nx k => R17_6 call e M nx fun e M nx => e.getK q6 fun v => v.onB fun c => Bool.rec (k (.x 0) e M nx) (R17_7 call e M nx fun e M nx => R17_8 call e M nx fun e M nx => R17_9 call e M nx fun e M nx => R17_10 call e M nx fun e M nx => k .n e M nx) c) call e M nx fun ex e M nx => Ex.rec (j1 e M nx) (k .r e M nx) (fun id => Bool.rec (k (.x id) e M nx) (j1 e M nx) (Nat.beq id 0)) ex) fun e M nx => j0 e M nx) fun e M nx => R17_4 call e M nx fun e M nx => k .r e M nx) (R17_11 call e M nx fun e M nx => k .r e M nx) c) [.t q10] [q0]
noncomputable def R18_0 : RegF := fun call e M nx k => e.getK q0 fun v0 => bxV 30 v0 M nx fun v1 M nx => VV.onAny (.nils) (VV.onAny (.nils) (VV.onAny (.nils) (VV.onAny (.i (.ofNat 0)) (e.setK q5 v1 fun e => e.setK q7 (.nils) fun e => e.setK q8 (.nils) fun e => e.setK q9 (.nils) fun e => e.setK q10 (.i (.ofNat 0)) fun e => k e M nx))))
noncomputable def R18_1 : RegF := fun call e M nx k => e.getK q5 fun v0 => ldV M v0 6 true fun _ v1 => callV call s36 [v1] M nx fun v2 M nx => VV.onAny v2 (v_ext v2 0 fun v3 => v_ext v2 1 fun v4 => VV.onAny v3 (VV.onAny v4 (e.setK q4 v3 fun e => e.setK q3 v4 fun e => k e M nx)))
noncomputable def R18_2 : RegF := fun call e M nx k => e.getK q3 fun v0 => VV.onAny v0 (v_ne v0 (.i (.ofNat 0)) fun v1 => e.setK q6 v1 fun e => k e M nx)
noncomputable def R18_3 : RegF := fun call e M nx k => e.getK q4 fun v0 => e.getK q1 fun v1 => e.getK q2 fun v2 => VV.onAny v0 (VV.onAny v1 (VV.onAny v2 (callV call s37 [v0, v1, v2] M nx fun v3 M nx => k e M nx)))
noncomputable def R18_4 : RegF := fun call e M nx k => e.getK q4 fun v0 => (fun M0 => VV.onAny v0 (v_nck v0 fun v1 => v_fa v1 1 fun v2 => ldV M v2 1 false fun bv3 v3 => VV.onAny v0 (v_nck v0 fun v4 => v_fa v4 0 fun v5 => ldV M v5 1 false fun _ v6 => callV call s38 [v6] M nx fun v7 M nx => VV.onAny v0 (v_nck v0 fun v8 => v_fa v8 0 fun v9 => ldV M v9 1 false fun bv10 v10 => callV call s39 [v10] M nx fun v11 M nx => VV.onAny v3 (VV.onAny v7 (VV.onAny v11 (VV.onAny (.i (.ofNat 0)) (Bool.rec false (e.setK q7 v3 fun e => e.setK q8 v7 fun e => e.setK q9 v11 fun e => e.setK q10 (.i (.ofNat 0)) fun e => k e M nx) (keptB M0 M (bv10 :: (bv3 :: []))))))))))) M
noncomputable def R18_5 : RegF := fun call e M nx k => e.getK q3 fun v0 => VV.onAny v0 (VV.onAny (.nils) (VV.onAny (.nils) (VV.onAny (.nils) (VV.onAny v0 (e.setK q7 (.nils) fun e => e.setK q8 (.nils) fun e => e.setK q9 (.nils) fun e => e.setK q10 v0 fun e => k e M nx)))))
noncomputable def S18 : List (P × I) := [(s0, q0), (s1, q1), (s2, q2), (s11, q3), (s10, q4), (s3, q5), (s18, q6), (s6, q7), (s7, q8), (s8, q9), (s9, q10)]
noncomputable def G18 : F2 := .mk (fun call e M nx k => R18_0 call e M nx fun e M nx => R18_1 call e M nx fun e M nx => R18_2 call e M nx fun e M nx => e.getK q6 fun v => v.onB fun c => Bool.rec (R18_3 call e M nx fun e M nx => R18_4 call e M nx fun e M nx => k .r e M nx) (R18_5 call e M nx fun e M nx => k .r e M nx) c) [.t q7, .t q8, .t q9, .t q10] [q0, q1, q2]
noncomputable def R19_0 : RegF := fun call e M nx k => alV 30 [.nils, .nils, .nils, .nils, (.i (.ofNat 0)), (.i (.ofNat 0))] M nx fun v0 M nx => e.setK q0 v0 fun e => k e M nx
noncomputable def R19_1 : RegF := fun call e M nx k => v_bld [(.i (.ofNat 0)), (.i (.ofNat 0)), (.i (.ofNat 0)), (.i (.ofNat 0)), (.i (.ofNat 0)), (.i (.ofNat 0)), (.i (.ofNat 0)), (.str []), (.str [])] [(0, 1, (.i (.ofNat 2)))] fun v0 => v_bld [(.i (.ofNat 0)), (.i (.ofNat 0)), (.i (.ofNat 0)), (.i (.ofNat 0)), (.i (.ofNat 0)), (.i (.ofNat 0)), (.i (.ofNat 0)), (.str []), (.str [])] [(0, 1, (.i (.ofNat 1))), (1, 1, (.i (.ofNat 3)))] fun v1 => v_bld [(.i (.ofNat 0)), (.i (.ofNat 0)), (.i (.ofNat 0)), (.i (.ofNat 0)), (.i (.ofNat 0)), (.i (.ofNat 0)), (.i (.ofNat 0)), (.str []), (.str [])] [(0, 1, (.i (.ofNat 3)))] fun v2 => bslV 34 9 3 (rep 7 (.i (.ofNat 0)) ++ [(.str []), (.str [])] ++ rep 7 (.i (.ofNat 0)) ++ [(.str []), (.str [])] ++ rep 7 (.i (.ofNat 0)) ++ [(.str []), (.str [])]) [(0, 9, v0), (9, 9, v1), (18, 9, v2)] M nx fun v3 M nx => VV.onAny v3 (e.setK q2 v3 fun e => k e M nx)
noncomputable def R19_2 : RegF := fun call e M nx k => v_bld [(.i (.ofNat 0)), (.i (.ofNat 0)), (.i (.ofNat 0)), (.i (.ofNat 0)), (.i (.ofNat 0)), (.i (.ofNat 0)), (.i (.ofNat 0)), (.str []), (.str [])] [(0, 1, (.i (.ofNat 2)))] fun v0 => v_bld [(.i (.ofNat 0)), (.i (.ofNat 0)), (.i (.ofNat 0)), (.i (.ofNat 0)), (.i (.ofNat 0)), (.i (.ofNat 0)), (.i (.ofNat 0)), (.str []), (.str [])] [(0, 1, (.i (.ofNat 3)))] fun v1 => bslV 34 9 2 (rep 7 (.i (.ofNat 0)) ++ [(.str []), (.str [])] ++ rep 7 (.i (.ofNat 0)) ++ [(.str []), (.str [])]) [(0, 9, v0), (9, 9, v1)] M nx fun v2 M nx => VV.onAny v2 (e.setK q1 v2 fun e => k e M nx)
noncomputable def R19_3 : RegF := fun call e M nx k => e.getK q1 fun v0 => e.getK q2 fun v1 => e.getK q0 fun v2 => v_bld [(.i (.ofNat 0)), (.i (.ofNat 0))] [(0, 1, (.i (.ofNat 1))), (1, 1, (.i (.ofNat 9)))] fun v3 => bslV 24 2 1 [(.i (.ofNat 0)), (.i (.ofNat 0))] [(0, 2, v3)] M nx fun v4 M nx => bslV 3 1 1 [(.i (.ofNat 0))] [(0, 1, (.i (.ofNat 0)))] M nx fun v5 M nx => VV.onAny v0 (v_bld [(.i (.ofNat 0)), (.i (.ofNat 0)), (.i (.ofNat 0)), (.i (.ofNat 0)), (.i (.ofNat 0)), (.i (.ofNat 0)), .nils, .nils] [(0, 1, (.i (.ofNat 2))), (1, 1, (.i (.ofNat 9))), (2, 1, (.i (.ofNat 50))), (3, 1, (.i (.ofNat 40))), (4, 1, (.i (.ofNat 5))), (5, 1, (.i (.negSucc 0))), (6, 1, v5), (7, 1, v0)] fun v6 => bslV 37 8 1 [(.i (.ofNat 0)), (.i (.ofNat 0)), (.i (.ofNat 0)), (.i (.ofNat 0)), (.i (.ofNat 0)), (.i (.ofNat 0)), .nils, .nils] [(0, 8, v6)] M nx fun v7 M nx => VV.onAny v1 (v_bld [(.i (.ofNat 0)), .nils] [(1, 1, v1)] fun v8 => bslV 39 2 1 [(.i (.ofNat 0)), .nils] [(0, 2, v8)] M nx fun v9 M nx => v_bld [.nils, .nils, .nils, .nils, (.i (.ofNat 0)), (.i (.ofNat 0))] [(4, 1, (.i (.ofNat 8))), (5, 1, (.i (.ofNat 100))), (2, 1, v4), (0, 1, v7), (1, 1, v9)] fun v10 => stV M v2 v10 6 fun M => k e M nx))
noncomputable def S19 : List (P × I) := [(s0, q0), (s2, q1), (s1, q2)]
noncomputable def G19 : F2 := .mk (fun call e M nx k => R19_0 call e M nx fun e M nx => R19_1 call e M nx fun e M nx => R19_2 call e M nx fun e M nx => R19_3 call e M nx fun e M nx => k .r e M nx) [.c q0 6 true] []
noncomputable def R20_0 : RegF := fun call e M nx k => VV.onAny (.bool false) (e.setK q6 (.bool false) fun e => k e M nx)
noncomputable def R20_1 : RegF := fun call e M nx k => e.getK q0 fun v0 => e.getK q1 fun v1 => VV.onAny v0 (v_lenS v0 fun v2 => VV.onAny v1 (v_lenS v1 fun v3 => v_ne v2 v3 fun v4 => e.setK q3 v4 fun e => k e M nx))
noncomputable def R20_2 : RegF := fun call e M nx k => VV.onAny (.bool true) (e.setK q6 (.bool true) fun e => k e M nx)
noncomputable def R20_3 : RegF := fun call e M nx k => VV.onAny (.i (.ofNat 0)) (e.setK q2 (.i (.ofNat 0)) fun e => k e M nx)
noncomputable def R20_4 : RegF := fun call e M nx k => e.getK q2 fun v0 => e.getK q0 fun v1 => VV.onAny v0 (VV.onAny v1 (v_lenS v1 fun v2 => v_lt v0 v2 fun v3 => e.setK q4 v3 fun e => k e M nx))
noncomputable def R20_5 : RegF := fun call e M nx k => e.getK q0 fun v0 => e.getK q2 fun v1 => e.getK q1 fun v2 => (fun M0 => VV.onAny v0 (VV.onAny v1 (v_ixS v0 v1 2 fun v3 => ldV M v3 2 true fun _ v4 => VV.onAny v2 (VV.onAny v1 (v_ixS v2 v1 2 fun v5 => ldV M v5 2 true fun _ v6 => v_aeq true [(0, .i), (1, .b)] v4 v6 fun v7 => Bool.rec false (e.setK q5 v7 fun e => k e M nx) (keptB M0 M [])))))) M
noncomputable def R20_6 : RegF := fun call e M nx k => e.getK q2 fun v0 => VV.onAny v0 (v_add v0 (.i (.ofNat 1)) fun v1 => VV.onAny v1 (e.setK q2 v1 fun e => k e M nx))
noncomputable def R20_7 : RegF := fun call e M nx k => VV.onAny (.bool false) (e.setK q6 (.bool false) fun e => k e M nx)
noncomputable def R20_8 : RegF := fun call e M nx k => VV.onAny (.bool false) (e.setK q6 (.bool false) fun e => k e M nx)
noncomputable def S20 : List (P × I) := [(s0, q0), (s1, q1), (s5, q2), (s10, q3), (s14, q4), (s25, q5), (s4, q6)]
noncomputable def G20 : F2 := .mk (fun call e M nx k => R20_0 call e M nx fun e M nx => R20_1 call e M nx fun e M nx => e.getK q3 fun v => v.onB fun c => Bool.rec ((fun (j0 : En → Mem → P → Bool) => R20_3 call e M nx fun e M nx => (fun (j1 : En → Mem → P → Bool) => loopK (fun call e M nx k => R20_4 call e M nx fun e M nx => e.getK q4 fun v => v.onB fun c => Bool.rec (k (.x 0) e M nx) (R20_5 call e M nx fun e M nx => e.getK q5 fun v => v.onB fun c => Bool.rec (R20_6 call e M nx fun e M nx => k .n e M nx) (R20_7 call e M nx fun e M nx => k .r e M nx) c) c) call e M nx fun ex e M nx => Ex.rec (j1 e M nx) (k .r e M nx) (fun id => Bool.rec (k (.x id) e M nx) (j1 e M nx) (Nat.beq id 0)) ex) fun e M nx => j0 e M nx) fun e M nx => R20_2 call e M nx fun e M nx => k .r e M nx) (R20_8 call e M nx fun e M nx => k .r e M nx) c) [.t q6] [q0, q1]
noncomputable def R21_0 : RegF := fun call e M nx k => e.getK q0 fun v0 => bxV 52 v0 M nx fun v1 M nx => VV.onAny (.bool false) (e.setK q1 v1 fun e => e.setK q2 (.bool false) fun e => k e M nx)
noncomputable def R21_1 : RegF := fun call e M nx k => e.getK q1 fun v0 => v_fa v0 3 fun v1 => ldV M v1 1 false fun _ v2 => v_fa v0 2 fun v3 => ldV M v3 1 false fun _ v4 => v_lt v4 v2 fun v5 => VV.onAny v5 (e.setK q2 v5 fun e => k e M nx)
noncomputable def S21 : List (P × I) := [(s0, q0), (s1, q1), (s2, q2)]
noncomputable def G21 : F2 := .mk (fun call e M nx k => R21_0 call e M nx fun e M nx => R21_1 call e M nx fun e M nx => k .r e M nx) [.t q2] [q0]
noncomputable def R22_0 : RegF := fun call e M nx k => e.getK q0 fun v0 => bxV 84 v0 M nx fun v1 M nx => VV.onAny (.bool false) (e.setK q1 v1 fun e => e.setK q2 (.bool false) fun e => k e M nx)
noncomputable def R22_1 : RegF := fun call e M nx k => e.getK q1 fun v0 => (fun M0 => ldV M v0 5 true fun _ v1 => callV call s41 [v1] M nx fun v2 M nx => v_fa v0 2 fun v3 => ldV M v3 1 false fun bv4 v4 => v_fa v0 1 fun v5 => ldV M v5 1 false fun bv6 v6 => v_lenS v6 fun v7 => callV call s40 [v2, v4, v7] M nx fun v8 M nx => VV.onAny v8 (Bool.rec false (e.setK q2 v8 fun e => k e M nx) (keptB M0 M (bv6 :: (bv4 :: []))))) M
noncomputable def S22 : List (P × I) := [(s0, q0), (s1, q1), (s2, q2)]
noncomputable def G22 : F2 := .mk (fun call e M nx k => R22_0 call e M nx fun e M nx => R22_1 call e M nx fun e M nx => k .r e M nx) [.t q2] [q0]
noncomputable def R23_0 : RegF := fun call e M nx k => e.getK q0 fun v0 => bxV 30 v0 M nx fun v1 M nx => VV.onAny (.nil) (VV.onAny (.i (.ofNat 0)) (e.setK q2 v1 fun e => e.setK q26 (.nil) fun e => e.setK q27 (.i (.ofNat 0)) fun e => k e M nx))
noncomputable def R23_1 : RegF := fun call e M nx k => e.getK q2 fun v0 => ldV M v0 6 true fun _ v1 => callV call s42 [v1] M nx fun v2 M nx => v_not v2 fun v3 => e.setK q8 v3 fun e => k e M nx
noncomputable def R23_2 : RegF := fun call e M nx k => v_bld ([.nils, (.i (.ofNat 0)), .nils, .nils, .nil, .nil, .nil, .nil, .nils, .nil, .nil, .nils, .nils, (.i (.ofNat 0)), .nils, .nils, .nils, .nils, (.i (.ofNat 0)), (.i (.ofNat 0)), (.i (.ofNat 0)), (.bool false)] ++ rep 8 (.i (.ofNat 0))) [] fun v0 => bxV 99 v0 M nx fun v1 M nx => VV.onAny v1 (e.setK q1 v1 fun e => k e M nx)
noncomputable def R23_3 : RegF := fun call e M nx k => e.getK q1 fun v0 => e.getK q2 fun v1 => VV.onAny v0 (v_fa v1 2 fun v2 => ldV M v2 1 false fun _ v3 => callV call s48 [v3] M nx fun v4 M nx => VV.onAny v4 (v_ext v4 0 fun v5 => v_ext v4 1 fun v6 => v_nck v0 fun v7 => v_fa v7 4 fun v8 => stV M v8 v5 1 fun M => k e M nx))
noncomputable def R23_4 : RegF := fun call e M nx k => e.getK q1 fun v0 => VV.onAny v0 (VV.onAny v0 (v_nck v0 fun v1 => v_fa v1 4 fun v2 => ldV M v2 1 false fun _ v3 => callV call s49 [v3] M nx fun v4 M nx => v_nck v0 fun v5 => v_fa v5 5 fun v6 => stV M v6 v4 1 fun M => k e M nx))
noncomputable def R23_5 : RegF := fun call e M nx k => e.getK q1 fun v0 => VV.onAny v0 (callV call s50 [(.i (.ofNat 4))] M nx fun v1 M nx => VV.onAny v1 (v_ext v1 0 fun v2 => v_ext v1 1 fun v3 => v_nck v0 fun v4 => v_fa v4 6 fun v5 => stV M v5 v2 1 fun M => k e M nx))
noncomputable def R23_6 : RegF := fun call e M nx k => e.getK q1 fun v0 => VV.onAny v0 (callV call s51 [(.i (.ofNat 0))] M nx fun v1 M nx => VV.onAny v1 (v_ext v1 0 fun v2 => v_ext v1 1 fun v3 => v_nck v0 fun v4 => v_fa v4 7 fun v5 => stV M v5 v2 1 fun M => k e M nx))
noncomputable def R23_7 : RegF := fun call e M nx k => e.getK q1 fun v0 => e.getK q2 fun v1 => VV.onAny v0 (v_fa v1 5 fun v2 => ldV M v2 1 false fun _ v3 => callV call s53 [v3] M nx fun v4 M nx => VV.onAny v4 (v_ext v4 0 fun v5 => v_ext v4 1 fun v6 => v_nck v0 fun v7 => v_fa v7 9 fun v8 => stV M v8 v5 1 fun M => k e M nx))
noncomputable def R23_8 : RegF := fun call e M nx k => e.getK q1 fun v0 => e.getK q2 fun v1 => VV.onAny v0 (v_fa v1 4 fun v2 => ldV M v2 1 false fun _ v3 => callV call s54 [v3] M nx fun v4 M nx => VV.onAny v4 (v_ext v4 0 fun v5 => v_ext v4 1 fun v6 => v_nck v0 fun v7 => v_fa v7 10 fun v8 => stV M v8 v5 1 fun M => k e M nx))
noncomputable def R23_9 : RegF := fun call e M nx k => e.getK q1 fun v0 => VV.onAny v0 (VV.onAny v0 (VV.onAny (.i (.ofNat 0)) (e.setK q26 v0 fun e => e.setK q27 (.i (.ofNat 0)) fun e => k e M nx)))
noncomputable def R23_10 : RegF := fun call e M nx k => e.getK q1 fun v0 => VV.onAny v0 (v_nck v0 fun v1 => v_fa v1 2 fun v2 => ldV M v2 1 false fun _ v3 => v_lenS v3 fun v4 => VV.onAny (.i (.ofNat 0)) (e.setK q23 v4 fun e => e.setK q7 (.i (.ofNat 0)) fun e => k e M nx))
noncomputable def R23_11 : RegF := fun call e M nx k => e.getK q7 fun v0 => e.getK q23 fun v1 => v_lt v0 v1 fun v2 => e.setK q24 v2 fun e => k e M nx
noncomputable def R23_12 : RegF := fun call e M nx k => e.getK q7 fun v0 => VV.onAny v0 (VV.onAny v0 (e.setK q25 v0 fun e => k e M nx))
noncomputable def R23_13 : RegF := fun call e M nx k => e.getK q1 fun v0 => e.getK q25 fun v1 => VV.onAny v0 (v_nck v0 fun v2 => v_fa v2 10 fun v3 => ldV M v3 1 false fun _ v4 => VV.onAny v1 (callV call s55 [v4, v1] M nx fun v5 M nx => k e M nx))
noncomputable def R23_14 : RegF := fun call e M nx k => e.getK q7 fun v0 => v_add v0 (.i (.ofNat 1)) fun v1 => VV.onAny v1 (e.setK q7 v1 fun e => k e M nx)
noncomputable def R23_15 : RegF := fun call e M nx k => e.getK q2 fun v0 => v_fa v0 3 fun v1 => ldV M v1 1 false fun _ v2 => v_lenS v2 fun v3 => VV.onAny (.i (.ofNat 0)) (e.setK q20 v2 fun e => e.setK q18 v3 fun e => e.setK q6 (.i (.ofNat 0)) fun e => k e M nx)
noncomputable def R23_16 : RegF := fun call e M nx k => e.getK q6 fun v0 => e.getK q18 fun v1 => v_lt v0 v1 fun v2 => e.setK q19 v2 fun e => k e M nx
noncomputable def R23_17 : RegF := fun call e M nx k => e.getK q20 fun v0 => e.getK q6 fun v1 => v_ixS v0 v1 1 fun v2 => ldV M v2 1 false fun _ v3 => VV.onAny v3 (e.setK q21 v3 fun e => k e M nx)
noncomputable def R23_18 : RegF := fun call e M nx k => e.getK q21 fun v0 => VV.onAny v0 (callV call s52 [v0] M nx fun v1 M nx => VV.onAny v1 (v_ext v1 0 fun v2 => v_ext v1 1 fun v3 => VV.onAny v2 (VV.onAny v3 (e.setK q22 v2 fun e => k e M nx))))
noncomputable def R23_19 : RegF := fun call e M nx k => e.getK q1 fun v0 => e.getK q22 fun v1 => VV.onAny v0 (VV.onAny v0 (v_nck v0 fun v2 => v_fa v2 8 fun v3 => ldV M v3 1 false fun _ v4 => VV.onAny v1 (bslV 103 1 1 [.nil] [(0, 1, v1)] M nx fun v5 M nx => appV 103 1 8 v4 v5 M nx fun v6 M nx => v_nck v0 fun v7 => v_fa v7 8 fun v8 => stV M v8 v6 1 fun M => k e M nx)))
noncomputable def R23_20 : RegF := fun call e M nx k => e.getK q6 fun v0 => v_add v0 (.i (.ofNat 1)) fun v1 => VV.onAny v1 (e.setK q6 v1 fun e => k e M nx)
noncomputable def R23_21 : RegF := fun call e M nx k => e.getK q2 fun v0 => v_fa v0 1 fun v1 => ldV M v1 1 false fun _ v2 => v_lenS v2 fun v3 => VV.onAny (.i (.ofNat 0)) (e.setK q15 v2 fun e => e.setK q13 v3 fun e => e.setK q5 (.i (.ofNat 0)) fun e => k e M nx)
noncomputable def R23_22 : RegF := fun call e M nx k => e.getK q5 fun v0 => e.getK q13 fun v1 => v_lt v0 v1 fun v2 => e.setK q14 v2 fun e => k e M nx
noncomputable def R23_23 : RegF := fun call e M nx k => e.getK q5 fun v0 => e.getK q15 fun v1 => VV.onAny v0 (v_ixS v1 v0 2 fun v2 => ldV M v2 2 true fun _ v3 => alV 39 [(.i (.ofNat 0)), .nils] M nx fun v4 M nx => VV.onAny v0 (stV M v4 v3 2 fun M => e.setK q17 v4 fun e => e.setK q16 v0 fun e => k e M nx))
noncomputable def R23_24 : RegF := fun call e M nx k => e.getK q1 fun v0 => e.getK q2 fun v1 => e.getK q16 fun v2 => e.getK q17 fun v3 => (fun M0 => VV.onAny v0 (v_fa v1 0 fun v4 => ldV M v4 1 false fun _ v5 => v_lenS v5 fun v6 => VV.onAny v2 (v_add v6 v2 fun v7 => ldV M v3 2 true fun _ v8 => callV call s47 [v7, v8] M nx fun v9 M nx => v_fa v3 1 fun v10 => ldV M v10 1 false fun bv11 v11 => callV call s46 [v11] M nx fun v12 M nx => callV call s44 [v0, v9, v12] M nx fun v13 M nx => Bool.rec false (k e M nx) (keptB M0 M (bv11 :: []))))) M
noncomputable def R23_25 : RegF := fun call e M nx k => e.getK q5 fun v0 => v_add v0 (.i (.ofNat 1)) fun v1 => VV.onAny v1 (e.setK q5 v1 fun e => k e M nx)
noncomputable def R23_26 : RegF := fun call e M nx k => e.getK q2 fun v0 => v_fa v0 0 fun v1 => ldV M v1 1 false fun _ v2 => v_lenS v2 fun v3 => VV.onAny (.i (.ofNat 0)) (e.setK q11 v2 fun e => e.setK q9 v3 fun e => e.setK q3 (.i (.ofNat 0)) fun e => k e M nx)
noncomputable def R23_27 : RegF := fun call e M nx k => e.getK q3 fun v0 => e.getK q9 fun v1 => v_lt v0 v1 fun v2 => e.setK q10 v2 fun e => k e M nx
noncomputable def R23_28 : RegF := fun call e M nx k => e.getK q3 fun v0 => e.getK q11 fun v1 => VV.onAny v0 (v_ixS v1 v0 8 fun v2 => ldV M v2 8 true fun _ v3 => alV 37 [(.i (.ofNat 0)), (.i (.ofNat 0)), (.i (.ofNat 0)), (.i (.ofNat 0)), (.i (.ofNat 0)), (.i (.ofNat 0)), .nils, .nils] M nx fun v4 M nx => VV.onAny v0 (stV M v4 v3 8 fun M => e.setK q4 v4 fun e => e.setK q12 v0 fun e => k e M nx))
noncomputable def R23_29 : RegF := fun call e M nx k => e.getK q4 fun v0 => v_fa v0 6 fun v1 => ldV M v1 1 false fun _ v2 => callV call s43 [v2] M nx fun v3 M nx => v_fa v0 6 fun v4 => stV M v4 v3 1 fun M => k e M nx
noncomputable def R23_30 : RegF := fun call e M nx k => e.getK q1 fun v0 => e.getK q4 fun v1 => (fun M0 => VV.onAny v0 (VV.onAny v0 (v_nck v0 fun v2 => v_fa v2 0 fun v3 => ldV M v3 1 false fun _ v4 => ldV M v1 8 true fun _ v5 => bslV 37 8 1 [(.i (.ofNat 0)), (.i (.ofNat 0)), (.i (.ofNat 0)), (.i (.ofNat 0)), (.i (.ofNat 0)), (.i (.ofNat 0)), .nils, .nils] [(0, 8, v5)] M nx fun v6 M nx => appV 37 8 96 v4 v6 M nx fun v7 M nx => v_nck v0 fun v8 => v_fa v8 0 fun v9 => Bool.rec false (stV M v9 v7 1 fun M => k e M nx) (keptB M0 M [])))) M
noncomputable def R23_31 : RegF := fun call e M nx k => e.getK q1 fun v0 => e.getK q12 fun v1 => e.getK q4 fun v2 => (fun M0 => VV.onAny v0 (VV.onAny v1 (ldV M v2 8 true fun _ v3 => callV call s45 [v1, v3] M nx fun v4 M nx => v_fa v2 7 fun v5 => ldV M v5 1 false fun bv6 v6 => callV call s46 [v6] M nx fun v7 M nx => callV call s44 [v0, v4, v7] M nx fun v8 M nx => Bool.rec false (k e M nx) (keptB M0 M (bv6 :: []))))) M
noncomputable def R23_32 : RegF := fun call e M nx k => e.getK q3 fun v0 => v_add v0 (.i (.ofNat 1)) fun v1 => VV.onAny v1 (e.setK q3 v1 fun e => k e M nx)
noncomputable def R23_33 : RegF := fun call e M nx k => VV.onAny (.nil) (VV.onAny (.i (.ofNat 2)) (e.setK q26 (.nil) fun e => e.setK q27 (.i (.ofNat 2)) fun e => k e M nx))
noncomputable def S23 : List (P × I) := [(s0, q0), (s4, q1), (s1, q2), (s22, q3), (s6, q4), (s53, q5), (s105, q6), (s148, q7), (s16, q8), (s21, q9), (s23, q10), (s20, q11), (s5, q12), (s52, q13), (s54, q14), (s51, q15), (s7, q16), (s8, q17), (s104, q18), (s106, q19), (s103, q20), (s10, q21), (s11, q22), (s147, q23), (s149, q24), (s13, q25), (s2, q26), (s3, q27)]
noncomputable def G23 : F2 := .mk (fun call e M nx k => R23_0 call e M nx fun e M nx => R23_1 call e M nx fun e M nx => e.getK q8 fun v => v.onB fun c => Bool.rec (R23_2 call e M nx fun e M nx => (fun (j0 : En → Mem → P → Bool) => R23_26 call e M nx fun e M nx => (fun (j7 : En → Mem → P → Bool) => loopK (fun call e M nx k => R23_27 call e M nx fun e M nx => e.getK q10 fun v => v.onB fun c => Bool.rec (k (.x 0) e M nx) (R23_28 call e M nx fun e M nx => R23_29 call e M nx fun e M nx => R23_30 call e M nx fun e M nx => R23_31 call e M nx fun e M nx => R23_32 call e M nx fun e M nx => k .n e M nx) c) call e M nx fun ex e M nx => Ex.rec (j7 e M nx) (k .r e M nx) (fun id => Bool.rec (k (.x id) e M nx) (j7 e M nx) (Nat.beq id 0)) ex) fun e M nx => j0 e M nx) fun e M nx => (fun (j1 : En → Mem → P → Bool) => R23_21 call e M nx fun e M nx => (fun (j6 : En → Mem → P → Bool) => loopK (fun call e M nx k => R23_22 call e M nx fun e M nx => e.getK q14 fun v => v.onB fun c => Bool.rec (k (.x 2) e M nx) (R23_23 call e M nx fun e M nx => R23_24 call e M nx fun e M nx => R23_25 call e M nx fun e M nx => k .n e M nx) c) call e M nx fun ex e M nx => Ex.rec (j6 e M nx) (k .r e M nx) (fun id => Bool.rec (k (.x id) e M nx) (j6 e M nx) (Nat.beq id 2)) ex) fun e M nx => j1 e M nx) fun e M nx => R23_3 call e M nx fun e M nx => R23_4 call e M nx fun e M nx => R23_5 call e M nx fun e M nx => R23_6 call e M nx fun e M nx => (fun (j2 : En → Mem → P → Bool) => R23_15 call e M nx fun e M nx => (fun (j5 : En → Mem → P → Bool) => loopK (fun call e M nx k => R23_16 call e M nx fun e M nx => e.getK q19 fun v => v.onB fun c => Bool.rec (k (.x 4) e M nx) (R23_17 call e M nx fun e M nx => R23_18 call e M nx fun e M nx => R23_19 call e M nx fun e M nx => R23_20 call e M nx fun e M nx => k .n e M nx) c) call e M nx fun ex e M nx => Ex.rec (j5 e M nx) (k .r e M nx) (fun id => Bool.rec (k (.x id) e M nx) (j5 e M nx) (Nat.beq id 4)) ex) fun e M nx => j2 e M nx) fun e M nx => R23_7 call e M nx fun e M nx => R23_8 call e M nx fun e M nx => (fun (j3 : En → Mem → P → Bool) => R23_10 call e M nx fun e M nx => (fun (j4 : En → Mem → P → Bool) => loopK (fun call e M nx k => R23_11 call e M nx fun e M nx => e.getK q24 fun v => v.onB fun c => Bool.rec (k (.x 6) e M nx) (R23_12 call e M nx fun e M nx => R23_13 call e M nx fun e M nx => R23_14 call e M nx fun e M nx => k .n e M nx) c) call e M nx fun ex e M nx => Ex.rec (j4 e M nx) (k .r e M nx) (fun id => Bool.rec (k (.x id) e M nx) (j4 e M nx) (Nat.beq id 6)) ex) fun e M nx => j3 e M nx) fun e M nx => R23_9 call e M nx fun e M nx => k .r e M nx) (R23_33 call e M nx fun e M nx => k .r e M nx) c) [.t q26, .t q27] [q0]
noncomputable def R24_0 : RegF := fun call e M nx k => VV.onAny (.nils) (VV.onAny (.i (.ofNat 0)) (e.setK q17 (.nils) fun e => e.setK q18 (.i (.ofNat 0)) fun e => k e M nx))
noncomputable def R24_1 : RegF := fun call e M nx k => e.getK q0 fun v0 => VV.onAny v0 (v_nqP false v0 fun v1 => VV.onAny v1 (gdK v1 false .off M nx (fun j => v_mv v0 fun v => j v M nx) fun v2 M nx => gdK v1 false .off M nx (fun j => v_nck v2 fun v => j v M nx) fun v3 M nx => gdK v1 false .off M nx (fun j => v_fa v3 0 fun v => j v M nx) fun v4 M nx => gdK v1 false .off M nx (fun j => ldV M v4 1 false fun _ v => j v M nx) fun v5 M nx => gdK v1 false .off M nx (fun j => v_eq v5 (.i (.ofNat 16777215)) fun v => j v M nx) fun v6 M nx => v_pick v1 (.bool true) v6 fun v7 => e.setK q7 v7 fun e => k e M nx))
noncomputable def R24_2 : RegF := fun call e M nx k => e.getK q0 fun v0 => VV.onAny v0 (v_nck v0 fun v1 => v_fa v1 0 fun v2 => ldV M v2 1 false fun _ v3 => v_add v3 (.i (.ofNat 1)) fun v4 => v_nck v0 fun v5 => v_fa v5 0 fun v6 => stV M v6 v4 1 fun M => k e M nx)
noncomputable def R24_3 : RegF := fun call e M nx k => VV.onAny (.nils) (e.setK q4 (.nils) fun e => k e M nx)
noncomputable def R24_4 : RegF := fun call e M nx k => VV.onAny (.i (.ofNat 0)) (e.setK q6 (.i (.ofNat 0)) fun e => k e M nx)
noncomputable def R24_5 : RegF := fun call e M nx k => e.getK q4 fun v0 => VV.onAny v0 (callV call s60 [v0] M nx fun v1 M nx => k e M nx)
noncomputable def R24_6 : RegF := fun call e M nx k => e.getK q4 fun v0 => e.getK q6 fun v1 => VV.onAny v0 (VV.onAny v1 (VV.onAny v0 (VV.onAny v1 (e.setK q17 v0 fun e => e.setK q18 v1 fun e => k e M nx))))
noncomputable def R24_7 : RegF := fun call e M nx k => VV.onAny (.i (.ofNat 3)) (e.setK q1 (.i (.ofNat 3)) fun e => k e M nx)
noncomputable def R24_8 : RegF := fun call e M nx k => e.getK q1 fun v0 => VV.onAny v0 (v_le (.i (.ofNat 0)) v0 fun v1 => e.setK q8 v1 fun e => k e M nx)
noncomputable def R24_9 : RegF := fun call e M nx k => e.getK q1 fun v0 => VV.onAny v0 (v_sub v0 (.i (.ofNat 1)) fun v1 => VV.onAny v1 (e.setK q1 v1 fun e => k e M nx))
noncomputable def R24_10 : RegF := fun call e M nx k => e.getK q0 fun v0 => e.getK q1 fun v1 => VV.onAny v0 (v_nck v0 fun v2 => v_fa v2 0 fun v3 => ldV M v3 1 false fun _ v4 => VV.onAny v1 (v_mul (.i (.ofNat 6)) v1 fun v5 => v_conv .u64 v5 fun v6 => v_kop .shl (.i (.ofNat 1)) v6 fun v7 => v_sub v7 (.i (.ofNat 1)) fun v8 => v_kop .and v4 v8 fun v9 => v_ne v9 (.i (.ofNat 0)) fun v10 => e.setK q9 v10 fun e => k e M nx))
noncomputable def R24_11 : RegF := fun call e M nx k => e.getK q0 fun v0 => e.getK q1 fun v1 => (fun M0 => VV.onAny v0 (VV.onAny v1 (VV.onAny v0 (v_nck v0 fun v2 => v_fa v2 0 fun v3 => ldV M v3 1 false fun _ v4 => VV.onAny v1 (callV call s56 [v4, v1] M nx fun v5 M nx => v_nck v0 fun v6 => v_fa v6 1 fun v7 => v_ixA v7 v1 4 64 fun v8 => v_ixA v8 v5 64 1 fun v9 => VV.onAny v9 (Bool.rec false (e.setK q5 v9 fun e => k e M nx) (keptB M0 M []))))))) M
noncomputable def R24_12 : RegF := fun call e M nx k => e.getK q5 fun v0 => VV.onAny v0 (v_nck v0 fun v1 => ldV M v1 1 false fun _ v2 => VV.onAny v2 (e.setK q10 v2 fun e => k e M nx))
noncomputable def R24_13 : RegF := fun call e M nx k => e.getK q5 fun v0 => VV.onAny v0 (v_nck v0 fun v1 => stV M v1 (.nils) 1 fun M => k e M nx)
noncomputable def R24_14 : RegF := fun call e M nx k => e.getK q10 fun v0 => VV.onAny v0 (v_lenS v0 fun v1 => VV.onAny (.i (.ofNat 0)) (e.setK q13 v0 fun e => e.setK q11 v1 fun e => e.setK q3 (.i (.ofNat 0)) fun e => k e M nx))
noncomputable def R24_15 : RegF := fun call e M nx k => e.getK q3 fun v0 => e.getK q11 fun v1 => v_lt v0 v1 fun v2 => e.setK q12 v2 fun e => k e M nx
noncomputable def R24_16 : RegF := fun call e M nx k => e.getK q3 fun v0 => v_add v0 (.i (.ofNat 1)) fun v1 => VV.onAny v1 (e.setK q3 v1 fun e => k e M nx)
noncomputable def R24_17 : RegF := fun call e M nx k => e.getK q13 fun v0 => e.getK q3 fun v1 => v_ixS v0 v1 2 fun v2 => ldV M v2 2 true fun _ v3 => alV 152 [(.i (.ofNat 0)), (.i (.ofNat 0))] M nx fun v4 M nx => stV M v4 v3 2 fun M => e.setK q2 v4 fun e => k e M nx
noncomputable def R24_18 : RegF := fun call e M nx k => e.getK q2 fun v0 => e.getK q0 fun v1 => (fun M0 => v_fa v0 1 fun v2 => ldV M v2 1 false fun _ v3 => VV.onAny v1 (v_nck v1 fun v4 => v_fa v4 0 fun v5 => ldV M v5 1 false fun _ v6 => v_eq v3 v6 fun v7 => VV.onAny v7 (Bool.rec false (e.setK q14 v7 fun e => k e M nx) (keptB M0 M [])))) M
noncomputable def R24_19 : RegF := fun call e M nx k => e.getK q0 fun v0 => e.getK q2 fun v1 => VV.onAny v0 (ldV M v1 2 true fun _ v2 => callV call s58 [v0, v2, (.fn s59 [] [])] M nx fun v3 M nx => k e M nx)
noncomputable def R24_20 : RegF := fun call e M nx k => e.getK q0 fun v0 => e.getK q2 fun v1 => VV.onAny v0 (v_fa v1 1 fun v2 => ldV M v2 1 false fun _ v3 => callV call s57 [v0, v3] M nx fun v4 M nx => VV.onAny v4 (v_ext v4 0 fun v5 => v_ext v4 1 fun v6 => VV.onAny v5 (VV.onAny v6 (e.setK q15 v5 fun e => k e M nx))))
noncomputable def R24_21 : RegF := fun call e M nx k => e.getK q15 fun v0 => e.getK q1 fun v1 => VV.onAny v0 (VV.onAny v1 (v_ne v0 v1 fun v2 => e.setK q16 v2 fun e => k e M nx))
noncomputable def R24_22 : RegF := fun call e M nx k => e.getK q6 fun v0 => VV.onAny v0 (v_add v0 (.i (.ofNat 1)) fun v1 => VV.onAny v1 (e.setK q6 v1 fun e => k e M nx))
noncomputable def R24_23 : RegF := fun call e M nx k => e.getK q4 fun v0 => e.getK q2 fun v1 => VV.onAny v0 (v_fa v1 0 fun v2 => ldV M v2 1 false fun _ v3 => bslV 3 1 1 [(.i (.ofNat 0))] [(0, 1, v3)] M nx fun v4 M nx => appV 3 1 8 v0 v4 M nx fun v5 M nx => VV.onAny v5 (e.setK q4 v5 fun e => k e M nx))
noncomputable def R24_24 : RegF := fun call e M nx k => e.getK q0 fun v0 => VV.onAny v0 (v_nck v0 fun v1 => v_fa v1 257 fun v2 => ldV M v2 1 false fun _ v3 => v_sub v3 (.i (.ofNat 1)) fun v4 => v_nck v0 fun v5 => v_fa v5 257 fun v6 => stV M v6 v4 1 fun M => k e M nx)
noncomputable def R24_25 : RegF := fun call e M nx k => VV.onAny (.nils) (VV.onAny (.i (.ofNat 0)) (e.setK q17 (.nils) fun e => e.setK q18 (.i (.ofNat 0)) fun e => k e M nx))
noncomputable def S24 : List (P × I) := [(s0, q0), (s6, q1), (s10, q2), (s63, q3), (s4, q4), (s7, q5), (s5, q6), (s21, q7), (s30, q8), (s43, q9), (s8, q10), (s62, q11), (s64, q12), (s61, q13), (s82, q14), (s11, q15), (s76, q16), (s2, q17), (s3, q18)]
noncomputable def G24 : F2 := .mk (fun call e M nx k => R24_0 call e M nx fun e M nx => R24_1 call e M nx fun e M nx => e.getK q7 fun v => v.onB fun c => Bool.rec (R24_2 call e M nx fun e M nx => R24_3 call e M nx fun e M nx => R24_4 call e M nx fun e M nx => (fun (j0 : En → Mem → P → Bool) => R24_7 call e M nx fun e M nx => (fun (j1 : En → Mem → P → Bool) => loopK (fun call e M nx k => R24_8 call e M nx fun e M nx => e.getK q8 fun v => v.onB fun c => Bool.rec (k (.x 0) e M nx) ((fun (j2 : En → Mem → P → Bool) => (fun (j3 : En → Mem → P → Bool) => R24_10 call e M nx fun e M nx => e.getK q9 fun v => v.onB fun c => Bool.rec (R24_11 call e M nx fun e M nx => R24_12 call e M nx fun e M nx => R24_13 call e M nx fun e M nx => R24_14 call e M nx fun e M nx => (fun (j4 : En → Mem → P → Bool) => loopK (fun call e M nx k => R24_15 call e M nx fun e M nx => e.getK q12 fun v => v.onB fun c => Bool.rec (k (.x 2) e M nx) ((fun (j5 : En → Mem → P → Bool) => (fun (j6 : En → Mem → P → Bool) => R24_17 call e M nx fun e M nx => (fun (j7 : En → Mem → P → Bool) => R24_18 call e M nx fun e M nx => (fun (j8 : En → Mem → P → Bool) => e.getK q14 fun v => v.onB fun c => Bool.rec ((fun (j9 : En → Mem → P → Bool) => R24_20 call e M nx fun e M nx => R24_21 call e M nx fun e M nx => (fun (j10 : En → Mem → P → Bool) => e.getK q16 fun v => v.onB fun c => Bool.rec (j10 e M nx) (R24_22 call e M nx fun e M nx => j10 e M nx) c) fun e M nx => j9 e M nx) fun e M nx => R24_19 call e M nx fun e M nx => j8 e M nx) (R24_23 call e M nx fun e M nx => R24_24 call e M nx fun e M nx => j8 e M nx) c) fun e M nx => j7 e M nx) fun e M nx => j6 e M nx) fun e M nx => j5 e M nx) fun e M nx => R24_16 call e M nx fun e M nx => k .n e M nx) c) call e M nx fun ex e M nx => Ex.rec (j4 e M nx) (k .r e M nx) (fun id => Bool.rec (Bool.rec (k (.x id) e M nx) (j3 e M nx) (Nat.beq id 1)) (j4 e M nx) (Nat.beq id 2)) ex) fun e M nx => j3 e M nx) (j3 e M nx) c) fun e M nx => j2 e M nx) fun e M nx => R24_9 call e M nx fun e M nx => k .n e M nx) c) call e M nx fun ex e M nx => Ex.rec (j1 e M nx) (k .r e M nx) (fun id => Bool.rec (k (.x id) e M nx) (j1 e M nx) (Nat.beq id 0)) ex) fun e M nx => j0 e M nx) fun e M nx => R24_5 call e M nx fun e M nx => R24_6 call e M nx fun e M nx => k .r e M nx) (R24_25 call e M nx fun e M nx => k .r e M nx) c) [.t q17, .t q18] [q0]
noncomputable def R25_0 : RegF := fun call e M nx k => e.getK q0 fun v0 => e.getK q1 fun v1 => VV.onAny v0 (v_nck v0 fun v2 => v_fa v2 2 fun v3 => ldV M v3 1 false fun _ v4 => VV.onAny v1 (v_ixS v4 v1 21 fun v5 => v_fa v5 5 fun v6 => ldV M v6 1 false fun _ v7 => e.setK q2 v7 fun e => k e M nx))
noncomputable def R25_1 : RegF := fun call e M nx k => e.getK q2 fun v0 => v_eq v0 (.i (.ofNat 3)) fun v1 => VV.onAny v1 (e.setK q3 v1 fun e => k e M nx)
noncomputable def R25_2 : RegF := fun call e M nx k => e.getK q2 fun v0 => v_eq v0 (.i (.ofNat 4)) fun v1 => VV.onAny v1 (e.setK q4 v1 fun e => k e M nx)
noncomputable def R25_3 : RegF := fun call e M nx k => e.getK q0 fun v0 => e.getK q1 fun v1 => VV.onAny v0 (VV.onAny v1 (callV call s62 [v0, v1] M nx fun v2 M nx => k e M nx))
noncomputable def R25_4 : RegF := fun call e M nx k => e.getK q0 fun v0 => e.getK q1 fun v1 => VV.onAny v0 (v_nck v0 fun v2 => v_fa v2 6 fun v3 => ldV M v3 1 false fun _ v4 => VV.onAny v1 (callV call s61 [v4, v1] M nx fun v5 M nx => k e M nx))
noncomputable def R25_5 : RegF := fun call e M nx k => e.getK q0 fun v0 => e.getK q1 fun v1 => VV.onAny v0 (v_nck v0 fun v2 => v_fa v2 2 fun v3 => ldV M v3 1 false fun _ v4 => VV.onAny v1 (v_bld [(.i (.ofNat 0)), (.i (.ofNat 0)), (.str [])] [(0, 1, (.i (.ofNat 22)))] fun v5 => v_ixS v4 v1 21 fun v6 => v_fa v6 11 fun v7 => stV M v7 v5 3 fun M => k e M nx))
noncomputable def R25_6 : RegF := fun call e M nx k => e.getK q0 fun v0 => e.getK q1 fun v1 => VV.onAny v0 (VV.onAny v1 (callV call s62 [v0, v1] M nx fun v2 M nx => k e M nx))
noncomputable def S25 : List (P × I) := [(s0, q0), (s1, q1), (s11, q2), (s12, q3), (s31, q4)]
noncomputable def G25 : F2 := .mk (fun call e M nx k => R25_0 call e M nx fun e M nx => (fun (j0 : En → Mem → P → Bool) => R25_1 call e M nx fun e M nx => (fun (j1 : En → Mem → P → Bool) => e.getK q3 fun v => v.onB fun c => Bool.rec (R25_2 call e M nx fun e M nx => (fun (j2 : En → Mem → P → Bool) => e.getK q4 fun v => v.onB fun c => Bool.rec (j2 e M nx) (R25_3 call e M nx fun e M nx => j2 e M nx) c) fun e M nx => j1 e M nx) (R25_4 call e M nx fun e M nx => R25_5 call e M nx fun e M nx => R25_6 call e M nx fun e M nx => j1 e M nx) c) fun e M nx => j0 e M nx) fun e M nx => k .n e M nx) [] [q0, q1]
noncomputable def R27_0 : RegF := fun call e M nx k => e.getK q1 fun v0 => bxV 48 v0 M nx fun v1 M nx => e.setK q2 v1 fun e => k e M nx
noncomputable def R27_1 : RegF := fun call e M nx k => e.getK q2 fun v0 => e.getK q0 fun v1 => (fun M0 => v_fa v0 1 fun v2 => ldV M v2 1 false fun _ v3 => v_le (.i (.ofNat 0)) v3 fun v4 => VV.onAny v4 (gdK v4 true .off M nx (fun j => v_fa v0 1 fun v => j v M nx) fun v5 M nx => gdK v4 true .off M nx (fun j => ldV M v5 1 false fun _ v => j v M nx) fun v6 M nx => gdK v4 true .off M nx (fun j => v_mv v1 fun v => j v M nx) fun v7 M nx => gdK v4 true .off M nx (fun j => v_nck v7 fun v => j v M nx) fun v8 M nx => gdK v4 true .off M nx (fun j => v_fa v8 8 fun v => j v M nx) fun v9 M nx => gdK v4 true .off M nx (fun j => ldV M v9 1 false fun _ v => j v M nx) fun v10 M nx => gdK v4 true .off M nx (fun j => v_lenS v10 fun v => j v M nx) fun v11 M nx => gdK v4 true .off M nx (fun j => v_lt v6 v11 fun v => j v M nx) fun v12 M nx => v_pick v4 v12 (.bool false) fun v13 => VV.onAny v13 (Bool.rec false (e.setK q3 v13 fun e => k e M nx) (keptB M0 M [])))) M
noncomputable def R27_2 : RegF := fun call e M nx k => e.getK q2 fun v0 => e.getK q0 fun v1 => (fun M0 => v_fa v0 1 fun v2 => ldV M v2 1 false fun _ v3 => v_eq v3 (.i (.negSucc 0)) fun v4 => VV.onAny v4 (gdK v4 true .off M nx (fun j => v_fa v0 2 fun v => j v M nx) fun v5 M nx => gdK v4 true .off M nx (fun j => ldV M v5 1 false fun _ v => j v M nx) fun v6 M nx => gdK v4 true .off M nx (fun j => v_le (.i (.ofNat 0)) v6 fun v => j v M nx) fun v7 M nx => v_pick v4 v7 (.bool false) fun v8 => VV.onAny v8 (gdK v8 true .off M nx (fun j => v_fa v0 2 fun v => j v M nx) fun v9 M nx => gdK v8 true .off M nx (fun j => ldV M v9 1 false fun _ v => j v M nx) fun v10 M nx => gdK v8 true .off M nx (fun j => v_mv v1 fun v => j v M nx) fun v11 M nx => gdK v8 true .off M nx (fun j => v_nck v11 fun v => j v M nx) fun v12 M nx => gdK v8 true .off M nx (fun j => v_fa v12 0 fun v => j v M nx) fun v13 M nx => gdK v8 true .off M nx (fun j => ldV M v13 1 false fun _ v => j v M nx) fun v14 M nx => gdK v8 true .off M nx (fun j => v_lenS v14 fun v => j v M nx) fun v15 M nx => gdK v8 true .off M nx (fun j => v_lt v10 v15 fun v => j v M nx) fun v16 M nx => v_pick v8 v16 (.bool false) fun v17 => VV.onAny v17 (gdK v17 true .off M nx (fun j => v_mv v1 fun v => j v M nx) fun v18 M nx => gdK v17 true .off M nx (fun j => v_nck v18 fun v => j v M nx) fun v19 M nx => gdK v17 true .off M nx (fun j => v_fa v19 0 fun v => j v M nx) fun v20 M nx => gdK v17 true .off M nx (fun j => ldV M v20 1 false fun _ v => j v M nx) fun v21 M nx => gdK v17 true .off M nx (fun j => v_fa v0 2 fun v => j v M nx) fun v22 M nx => gdK v17 true .off M nx (fun j => ldV M v22 1 false fun _ v => j v M nx) fun v23 M nx => gdK v17 true .off M nx (fun j => v_ixS v21 v23 8 fun v => j v M nx) fun v24 M nx => gdK v17 true .off M nx (fun j => v_fa v24 5 fun v => j v M nx) fun v25 M nx => gdK v17 true .off M nx (fun j => ldV M v25 1 false fun _ v => j v M nx) fun v26 M nx => gdK v17 true .off M nx (fun j => v_eq v26 (.i (.negSucc 0)) fun v => j v M nx) fun v27 M nx => v_pick v17 v27 (.bool false) fun v28 => VV.onAny v28 (Bool.rec false (e.setK q4 v28 fun e => k e M nx) (keptB M0 M [])))))) M
noncomputable def R27_3 : RegF := fun call e M nx k => e.getK q0 fun v0 => e.getK q2 fun v1 => (fun M0 => VV.onAny v0 (v_fa v1 2 fun v2 => ldV M v2 1 false fun _ v3 => VV.onAny v0 (v_nck v0 fun v4 => v_fa v4 1 fun v5 => ldV M v5 1 false fun _ v6 => callV call s65 [v0, v3, v6] M nx fun v7 M nx => Bool.rec false (k e M nx) (keptB M0 M [])))) M
noncomputable def R27_4 : RegF := fun call e M nx k => e.getK q0 fun v0 => e.getK q2 fun v1 => (fun M0 => VV.onAny v0 (v_nck v0 fun v2 => v_fa v2 8 fun v3 => ldV M v3 1 false fun _ v4 => v_fa v1 1 fun v5 => ldV M v5 1 false fun _ v6 => v_ixS v4 v6 1 fun v7 => ldV M v7 1 false fun _ v8 => VV.onAny v0 (v_nck v0 fun v9 => v_fa v9 1 fun v10 => ldV M v10 1 false fun _ v11 => callV call s64 [v8, v11] M nx fun v12 M nx => Bool.rec false (k e M nx) (keptB M0 M [])))) M
noncomputable def S27 : List (P × I) := [(s0, q0), (s1, q1), (s3, q2), (s4, q3), (s31, q4)]
noncomputable def G27 : F2 := .mk (fun call e M nx k => R27_0 call e M nx fun e M nx => (fun (j0 : En → Mem → P → Bool) => R27_1 call e M nx fun e M nx => (fun (j1 : En → Mem → P → Bool) => e.getK q3 fun v => v.onB fun c => Bool.rec (R27_2 call e M nx fun e M nx => (fun (j2 : En → Mem → P → Bool) => e.getK q4 fun v => v.onB fun c => Bool.rec (j2 e M nx) (R27_3 call e M nx fun e M nx => j2 e M nx) c) fun e M nx => j1 e M nx) (R27_4 call e M nx fun e M nx => j1 e M nx) c) fun e M nx => j0 e M nx) fun e M nx => k .n e M nx) [] [q0, q1]
noncomputable def R28_0 : RegF := fun call e M nx k => alV 67 [(.i (.ofNat 0)), (.bool false)] M nx fun v0 M nx => e.setK q2 v0 fun e => k e M nx
noncomputable def R28_1 : RegF := fun call e M nx k => e.getK q0 fun v0 => VV.onAny v0 (v_nck v0 fun v1 => v_fa v1 2 fun v2 => ldV M v2 1 false fun _ v3 => callV call s66 [v3, (.fn s67 [] [])] M nx fun v4 M nx => VV.onAny v4 (e.setK q1 v4 fun e => k e M nx))
noncomputable def R28_2 : RegF := fun call e M nx k => e.getK q0 fun v0 => VV.onAny v0 (VV.onAny v0 (callV call s69 [v0] M nx fun v1 M nx => v_nck v0 fun v2 => v_fa v2 13 fun v3 => stV M v3 v1 5 fun M => k e M nx))
noncomputable def R28_3 : RegF := fun call e M nx k => e.getK q1 fun v0 => VV.onAny v0 (v_lt v0 (.i (.ofNat 0)) fun v1 => e.setK q7 v1 fun e => k e M nx)
noncomputable def R28_4 : RegF := fun call e M nx k => e.getK q0 fun v0 => e.getK q1 fun v1 => VV.onAny v0 (v_nck v0 fun v2 => v_fa v2 5 fun v3 => ldV M v3 1 false fun _ v4 => VV.onAny v1 (callV call s73 [v4, v1, (.i (.ofNat 1))] M nx fun v5 M nx => k e M nx))
noncomputable def R28_5 : RegF := fun call e M nx k => e.getK q0 fun v0 => e.getK q1 fun v1 => VV.onAny v0 (v_nck v0 fun v2 => v_fa v2 2 fun v3 => ldV M v3 1 false fun _ v4 => VV.onAny v1 (v_ixS v4 v1 21 fun v5 => v_fa v5 19 fun v6 => ldV M v6 1 false fun _ v7 => v_lt v7 (.i (.ofNat 0)) fun v8 => VV.onAny v8 (gdK v8 true .off M nx (fun j => v_mv v0 fun v => j v M nx) fun v9 M nx => gdK v8 true .off M nx (fun j => v_mv v1 fun v => j v M nx) fun v10 M nx => gdK v8 true .no M nx (fun j => callV call s74 [v9, v10] M nx fun v M nx => j v M nx) fun v11 M nx => gdK v8 true .off M nx (fun j => v_fd v11 0 1 false fun v => j v M nx) fun v12 M nx => gdK v8 true .off M nx (fun j => v_eq v12 (.i (.ofNat 10)) fun v => j v M nx) fun v13 M nx => v_pick v8 v13 (.bool false) fun v14 => VV.onAny v14 (e.setK q9 v14 fun e => k e M nx))))
noncomputable def R28_6 : RegF := fun call e M nx k => e.getK q0 fun v0 => e.getK q1 fun v1 => VV.onAny v0 (VV.onAny v1 (callV call s75 [v0, v1] M nx fun v2 M nx => k e M nx))
noncomputable def R28_7 : RegF := fun call e M nx k => e.getK q0 fun v0 => e.getK q1 fun v1 => VV.onAny v0 (VV.onAny v1 (callV call s76 [v0, v1] M nx fun v2 M nx => k e M nx))
noncomputable def R28_8 : RegF := fun call e M nx k => e.getK q1 fun v0 => e.getK q9 fun v1 => e.getK q2 fun v2 => VV.onAny v0 (VV.onAny v1 (v_bld [(.i (.ofNat 0)), (.bool false)] [(0, 1, v0), (1, 1, v1)] fun v3 => stV M v2 v3 2 fun M => k e M nx))
noncomputable def R28_9 : RegF := fun call e M nx k => e.getK q0 fun v0 => e.getK q1 fun v1 => VV.onAny v0 (v_nck v0 fun v2 => v_fa v2 2 fun v3 => ldV M v3 1 false fun _ v4 => VV.onAny v1 (v_ixS v4 v1 21 fun v5 => v_fa v5 14 fun v6 => ldV M v6 1 false fun _ v7 => e.setK q8 v7 fun e => k e M nx))
noncomputable def R28_10 : RegF := fun call e M nx k => e.getK q0 fun v0 => e.getK q1 fun v1 => (fun M0 => VV.onAny v0 (v_nck v0 fun v2 => v_fa v2 2 fun v3 => ldV M v3 1 false fun bv4 v4 => VV.onAny v1 (VV.onAny v0 (v_nck v0 fun v5 => v_fa v5 2 fun v6 => ldV M v6 1 false fun _ v7 => VV.onAny v1 (v_ixS v7 v1 21 fun v8 => ldV M v8 21 true fun _ v9 => callV call s72 [v9, (.i (.ofNat 1))] M nx fun v10 M nx => v_ixS v4 v1 21 fun v11 => Bool.rec false (stV M v11 v10 21 fun M => k e M nx) (keptB M0 M (bv4 :: []))))))) M
noncomputable def R28_11 : RegF := fun call e M nx k => e.getK q2 fun v0 => v_bld [(.i (.ofNat 0)), (.bool false)] [(0, 1, (.i (.negSucc 0)))] fun v1 => stV M v0 v1 2 fun M => k e M nx
noncomputable def R28_12 : RegF := fun call e M nx k => e.getK q1 fun v0 => VV.onAny v0 (v_lt v0 (.i (.ofNat 0)) fun v1 => e.setK q4 v1 fun e => k e M nx)
noncomputable def R28_13 : RegF := fun call e M nx k => e.getK q0 fun v0 => VV.onAny v0 (callV call s68 [v0] M nx fun v1 M nx => VV.onAny v1 (v_ext v1 0 fun v2 => v_ext v1 1 fun v3 => VV.onAny v2 (VV.onAny v3 (e.setK q3 v2 fun e => e.setK q5 v3 fun e => k e M nx))))
noncomputable def R28_14 : RegF := fun call e M nx k => e.getK q5 fun v0 => VV.onAny v0 (e.setK q6 v0 fun e => k e M nx)
noncomputable def R28_15 : RegF := fun call e M nx k => e.getK q0 fun v0 => VV.onAny v0 (callV call s71 [v0] M nx fun v1 M nx => VV.onAny v1 (e.setK q1 v1 fun e => k e M nx))
noncomputable def R28_16 : RegF := fun call e M nx k => e.getK q0 fun v0 => VV.onAny v0 (VV.onAny v0 (callV call s69 [v0] M nx fun v1 M nx => v_nck v0 fun v2 => v_fa v2 13 fun v3 => stV M v3 v1 5 fun M => k e M nx))
noncomputable def R28_17 : RegF := fun call e M nx k => e.getK q0 fun v0 => e.getK q3 fun v1 => VV.onAny v0 (VV.onAny v1 (callV call s70 [v0, v1] M nx fun v2 M nx => k e M nx))
noncomputable def R28_18 : RegF := fun call e M nx k => e.getK q3 fun v0 => e.getK q2 fun v1 => VV.onAny v0 (v_sub (.i (.negSucc 1)) v0 fun v2 => v_bld [(.i (.ofNat 0)), (.bool false)] [(0, 1, v2)] fun v3 => stV M v1 v3 2 fun M => k e M nx)
noncomputable def S28 : List (P × I) := [(s0, q0), (s3, q1), (s2, q2), (s4, q3), (s13, q4), (s5, q5), (s19, q6), (s39, q7), (s48, q8), (s6, q9)]
noncomputable def G28 : F2 := .mk (fun call e M nx k => R28_0 call e M nx fun e M nx => R28_1 call e M nx fun e M nx => (fun (j0 : En → Mem → P → Bool) => R28_12 call e M nx fun e M nx => (fun (j3 : En → Mem → P → Bool) => e.getK q4 fun v => v.onB fun c => Bool.rec (j3 e M nx) (R28_13 call e M nx fun e M nx => R28_14 call e M nx fun e M nx => e.getK q6 fun v => v.onB fun c => Bool.rec (R28_15 call e M nx fun e M nx => j3 e M nx) (R28_16 call e M nx fun e M nx => R28_17 call e M nx fun e M nx => R28_18 call e M nx fun e M nx => k .r e M nx) c) c) fun e M nx => j0 e M nx) fun e M nx => R28_2 call e M nx fun e M nx => R28_3 call e M nx fun e M nx => e.getK q7 fun v => v.onB fun c => Bool.rec ((fun (j1 : En → Mem → P → Bool) => R28_9 call e M nx fun e M nx => (fun (j2 : En → Mem → P → Bool) => e.getK q8 fun v => v.onB fun c => Bool.rec (j2 e M nx) (R28_10 call e M nx fun e M nx => j2 e M nx) c) fun e M nx => j1 e M nx) fun e M nx => R28_4 call e M nx fun e M nx => R28_5 call e M nx fun e M nx => R28_6 call e M nx fun e M nx => R28_7 call e M nx fun e M nx => R28_8 call e M nx fun e M nx => k .r e M nx) (R28_11 call e M nx fun e M nx => k .r e M nx) c) [.c q2 2 true] [q0]
noncomputable def R29_0 : RegF := fun call e M nx k => VV.onAny (.bool false) (e.setK q2 (.bool false) fun e => k e M nx)
noncomputable def R29_1 : RegF := fun call e M nx k => e.getK q0 fun v0 => e.getK q1 fun v1 => VV.onAny v0 (VV.onAny v1 (callV call s66 [v0, v1] M nx fun v2 M nx => v_le (.i (.ofNat 0)) v2 fun v3 => VV.onAny v3 (e.setK q2 v3 fun e => k e M nx)))
noncomputable def S29 : List (P × I) := [(s0, q0), (s1, q1), (s4, q2)]
noncomputable def G29 : F2 := .mk (fun call e M nx k => R29_0 call e M nx fun e M nx => R29_1 call e M nx fun e M nx => k .r e M nx) [.t q2] [q0, q1]
noncomputable def R30_0 : RegF := fun call e M nx k => e.getK q0 fun v0 => bxV 109 v0 M nx fun v1 M nx => VV.onAny (.bool false) (e.setK q1 v1 fun e => e.setK q2 (.bool false) fun e => k e M nx)
noncomputable def R30_1 : RegF := fun call e M nx k => e.getK q1 fun v0 => v_fa v0 14 fun v1 => ldV M v1 1 false fun _ v2 => VV.onAny v2 (e.setK q2 v2 fun e => k e M nx)
noncomputable def S30 : List (P × I) := [(s0, q0), (s1, q1), (s2, q2)]
noncomputable def G30 : F2 := .mk (fun call e M nx k => R30_0 call e M nx fun e M nx => R30_1 call e M nx fun e M nx => k .r e M nx) [.t q2] [q0]
noncomputable def R31_0 : RegF := fun call e M nx k => e.getK q0 fun v0 => VV.onAny v0 (v_nqP true v0 fun v1 => e.setK q2 v1 fun e => k e M nx)
noncomputable def R31_1 : RegF := fun call e M nx k => e.getK q0 fun v0 => e.getK q1 fun v1 => (fun M0 => VV.onAny v0 (VV.onAny v0 (v_nck v0 fun v2 => v_fa v2 1 fun v3 => ldV M v3 1 false fun bv4 v4 => VV.onAny v1 (callV call s77 [v1] M nx fun v5 M nx => v_max v4 v5 fun v6 => v_nck v0 fun v7 => v_fa v7 1 fun v8 => Bool.rec false (stV M v8 v6 1 fun M => k e M nx) (keptB M0 M (bv4 :: [])))))) M
noncomputable def S31 : List (P × I) := [(s0, q0), (s1, q1), (s5, q2)]
noncomputable def G31 : F2 := .mk (fun call e M nx k => R31_0 call e M nx fun e M nx => (fun (j0 : En → Mem → P → Bool) => e.getK q2 fun v => v.onB fun c => Bool.rec (j0 e M nx) (R31_1 call e M nx fun e M nx => j0 e M nx) c) fun e M nx => k .n e M nx) [] [q0, q1]
noncomputable def R32_0 : RegF := fun call e M nx k => VV.onAny (.bool false) (e.setK q4 (.bool false) fun e => k e M nx)
noncomputable def R32_1 : RegF := fun call e M nx k => e.getK q1 fun v0 => VV.onAny v0 (callV call s77 [v0] M nx fun v1 M nx => VV.onAny v1 (e.setK q1 v1 fun e => k e M nx))
noncomputable def R32_2 : RegF := fun call e M nx k => e.getK q0 fun v0 => e.getK q1 fun v1 => (fun M0 => VV.onAny v0 (v_nqP false v0 fun v2 => VV.onAny v2 (gdK v2 false .off M nx (fun j => v_mv v1 fun v => j v M nx) fun v3 M nx => gdK v2 false .off M nx (fun j => v_mv v0 fun v => j v M nx) fun v4 M nx => gdK v2 false .off M nx (fun j => v_nck v4 fun v => j v M nx) fun v5 M nx => gdK v2 false .off M nx (fun j => v_fa v5 1 fun v => j v M nx) fun v6 M nx => gdK v2 false .off M nx (fun j => ldV M v6 1 false fun _ v => j v M nx) fun v7 M nx => gdK v2 false .off M nx (fun j => v_sub v3 v7 fun v => j v M nx) fun v8 M nx => gdK v2 false .off M nx (fun j => v_mv v0 fun v => j v M nx) fun v9 M nx => gdK v2 false .off M nx (fun j => v_nck v9 fun v => j v M nx) fun v10 M nx => gdK v2 false .off M nx (fun j => v_fa v10 0 fun v => j v M nx) fun v11 M nx => gdK v2 false .off M nx (fun j => ldV M v11 1 false fun _ v => j v M nx) fun v12 M nx => gdK v2 false .off M nx (fun j => v_lt v8 v12 fun v => j v M nx) fun v13 M nx => v_pick v2 (.bool true) v13 fun v14 => Bool.rec false (e.setK q2 v14 fun e => k e M nx) (keptB M0 M [])))) M
noncomputable def R32_3 : RegF := fun call e M nx k => e.getK q0 fun v0 => VV.onAny v0 (v_mkf s31 [v0] [] fun v1 => VV.onAny v1 (e.setK q3 v1 fun e => k e M nx))
noncomputable def R32_4 : RegF := fun call e M nx k => e.getK q3 fun v0 => e.getK q1 fun v1 => VV.onAny v0 (VV.onAny v1 (cvV call v0 [v1] M nx fun v2 M nx => k e M nx))
noncomputable def R32_5 : RegF := fun call e M nx k => e.getK q0 fun v0 => e.getK q1 fun v1 => VV.onAny v0 (VV.onAny v0 (v_nck v0 fun v2 => v_fa v2 2 fun v3 => ldV M v3 1 false fun _ v4 => VV.onAny v1 (bslV 3 1 1 [(.i (.ofNat 0))] [(0, 1, v1)] M nx fun v5 M nx => appV 3 1 8 v4 v5 M nx fun v6 M nx => v_nck v0 fun v7 => v_fa v7 2 fun v8 => stV M v8 v6 1 fun M => k e M nx)))
noncomputable def R32_6 : RegF := fun call e M nx k => VV.onAny (.bool true) (e.setK q4 (.bool true) fun e => k e M nx)
noncomputable def R32_7 : RegF := fun call e M nx k => VV.onAny (.bool false) (e.setK q4 (.bool false) fun e => k e M nx)
noncomputable def S32 : List (P × I) := [(s0, q0), (s1, q1), (s22, q2), (s5, q3), (s4, q4)]
noncomputable def G32 : F2 := .mk (fun call e M nx k => R32_0 call e M nx fun e M nx => R32_1 call e M nx fun e M nx => R32_2 call e M nx fun e M nx => e.getK q2 fun v => v.onB fun c => Bool.rec (R32_3 call e M nx fun e M nx => R32_4 call e M nx fun e M nx => R32_5 call e M nx fun e M nx => R32_6 call e M nx fun e M nx => k .r e M nx) (R32_7 call e M nx fun e M nx => k .r e M nx) c) [.t q4] [q0, q1]
noncomputable def R33_0 : RegF := fun call e M nx k => VV.onAny (.i (.ofNat 0)) (e.setK q6 (.i (.ofNat 0)) fun e => k e M nx)
noncomputable def R33_1 : RegF := fun call e M nx k => e.getK q0 fun v0 => VV.onAny v0 (v_nqP false v0 fun v1 => e.setK q2 v1 fun e => k e M nx)
noncomputable def R33_2 : RegF := fun call e M nx k => e.getK q0 fun v0 => e.getK q1 fun v1 => VV.onAny v0 (v_nck v0 fun v2 => v_fa v2 2 fun v3 => ldV M v3 1 false fun _ v4 => VV.onAny v1 (lkuV (.i (.ofNat 0)) true v4 v1 M fun v5 => VV.onAny v5 (v_ext v5 0 fun v6 => v_ext v5 1 fun v7 => VV.onAny v6 (VV.onAny v7 (e.setK q5 v6 fun e => e.setK q3 v7 fun e => k e M nx)))))
noncomputable def R33_3 : RegF := fun call e M nx k => e.getK q3 fun v0 => VV.onAny v0 (e.setK q4 v0 fun e => k e M nx)
noncomputable def R33_4 : RegF := fun call e M nx k => VV.onAny (.i (.negSucc 0)) (e.setK q6 (.i (.negSucc 0)) fun e => k e M nx)
noncomputable def R33_5 : RegF := fun call e M nx k => e.getK q5 fun v0 => VV.onAny v0 (VV.onAny v0 (e.setK q6 v0 fun e => k e M nx))
noncomputable def R33_6 : RegF := fun call e M nx k => VV.onAny (.i (.negSucc 0)) (e.setK q6 (.i (.negSucc 0)) fun e => k e M nx)
noncomputable def S33 : List (P × I) := [(s0, q0), (s1, q1), (s8, q2), (s6, q3), (s18, q4), (s5, q5), (s4, q6)]
noncomputable def G33 : F2 := .mk (fun call e M nx k => R33_0 call e M nx fun e M nx => R33_1 call e M nx fun e M nx => e.getK q2 fun v => v.onB fun c => Bool.rec (R33_2 call e M nx fun e M nx => R33_3 call e M nx fun e M nx => e.getK q4 fun v => v.onB fun c => Bool.rec (R33_4 call e M nx fun e M nx => k .r e M nx) (R33_5 call e M nx fun e M nx => k .r e M nx) c) (R33_6 call e M nx fun e M nx => k .r e M nx) c) [.t q6] [q0, q1]
noncomputable def R34_0 : RegF := fun call e M nx k => VV.onAny (.nils) (e.setK q10 (.nils) fun e => k e M nx)
noncomputable def R34_1 : RegF := fun call e M nx k => e.getK q0 fun v0 => VV.onAny v0 (callV call s78 [v0] M nx fun v1 M nx => alV 70 [.nils] M nx fun v2 M nx => stV M v2 v1 1 fun M => e.setK q4 v2 fun e => k e M nx)
noncomputable def R34_2 : RegF := fun call e M nx k => e.getK q4 fun v0 => ldV M v0 1 false fun _ v1 => VV.onAny v1 (e.setK q10 v1 fun e => k e M nx)
noncomputable def R34_3 : RegF := fun call e M nx k => e.getK q0 fun v0 => VV.onAny v0 (v_lenS v0 fun v1 => VV.onAny (.i (.ofNat 0)) (e.setK q7 v0 fun e => e.setK q5 v1 fun e => e.setK q3 (.i (.ofNat 0)) fun e => k e M nx))
noncomputable def R34_4 : RegF := fun call e M nx k => e.getK q3 fun v0 => e.getK q5 fun v1 => v_lt v0 v1 fun v2 => e.setK q6 v2 fun e => k e M nx
noncomputable def R34_5 : RegF := fun call e M nx k => e.getK q3 fun v0 => e.getK q7 fun v1 => VV.onAny v0 (v_ixS v1 v0 3 fun v2 => ldV M v2 3 true fun _ v3 => alV 73 [(.i (.ofNat 0)), (.i (.ofNat 0)), (.i (.ofNat 0))] M nx fun v4 M nx => VV.onAny v0 (stV M v4 v3 3 fun M => e.setK q9 v4 fun e => e.setK q8 v0 fun e => k e M nx))
noncomputable def R34_6 : RegF := fun call e M nx k => e.getK q1 fun v0 => e.getK q2 fun v1 => e.getK q0 fun v2 => e.getK q8 fun v3 => e.getK q4 fun v4 => e.getK q9 fun v5 => VV.onAny v0 (VV.onAny v1 (VV.onAny v2 (v_lenS v2 fun v6 => VV.onAny v3 (v_mkf s80 [] [v4, v5] fun v7 => callV call s79 [v0, v1, v6, v3, v7] M nx fun v8 M nx => k e M nx))))
noncomputable def R34_7 : RegF := fun call e M nx k => e.getK q3 fun v0 => v_add v0 (.i (.ofNat 1)) fun v1 => VV.onAny v1 (e.setK q3 v1 fun e => k e M nx)
noncomputable def S34 : List (P × I) := [(s0, q0), (s1, q1), (s2, q2), (s14, q3), (s7, q4), (s13, q5), (s15, q6), (s12, q7), (s8, q8), (s9, q9), (s6, q10)]
noncomputable def G34 : F2 := .mk (fun call e M nx k => R34_0 call e M nx fun e M nx => R34_1 call e M nx fun e M nx => (fun (j0 : En → Mem → P → Bool) => R34_3 call e M nx fun e M nx => (fun (j1 : En → Mem → P → Bool) => loopK (fun call e M nx k => R34_4 call e M nx fun e M nx => e.getK q6 fun v => v.onB fun c => Bool.rec (k (.x 0) e M nx) (R34_5 call e M nx fun e M nx => R34_6 call e M nx fun e M nx => R34_7 call e M nx fun e M nx => k .n e M nx) c) call e M nx fun ex e M nx => Ex.rec (j1 e M nx) (k .r e M nx) (fun id => Bool.rec (k (.x id) e M nx) (j1 e M nx) (Nat.beq id 0)) ex) fun e M nx => j0 e M nx) fun e M nx => R34_2 call e M nx fun e M nx => k .r e M nx) [.t q10] [q0, q1, q2]
noncomputable def R35_0 : RegF := fun call e M nx k => VV.onAny (.nils) (e.setK q8 (.nils) fun e => k e M nx)
noncomputable def R35_1 : RegF := fun call e M nx k => e.getK q0 fun v0 => VV.onAny v0 (v_nqP false v0 fun v1 => e.setK q3 v1 fun e => k e M nx)
noncomputable def R35_2 : RegF := fun call e M nx k => VV.onAny (.nils) (e.setK q2 (.nils) fun e => k e M nx)
noncomputable def R35_3 : RegF := fun call e M nx k => e.getK q0 fun v0 => VV.onAny v0 (v_mkf s82 [v0] [] fun v1 => VV.onAny v1 (e.setK q6 v1 fun e => k e M nx))
noncomputable def R35_4 : RegF := fun call e M nx k => e.getK q2 fun v0 => VV.onAny v0 (VV.onAny v0 (e.setK q8 v0 fun e => k e M nx))
noncomputable def R35_5 : RegF := fun call e M nx k => e.getK q0 fun v0 => VV.onAny v0 (v_nck v0 fun v1 => v_fa v1 0 fun v2 => ldV M v2 1 false fun _ v3 => callV call s83 [v3] M nx fun v4 M nx => VV.onAny (.i (.ofNat 0)) (e.setK q4 v4 fun e => e.setK q1 (.i (.ofNat 0)) fun e => k e M nx))
noncomputable def R35_6 : RegF := fun call e M nx k => e.getK q1 fun v0 => e.getK q4 fun v1 => v_lt v0 v1 fun v2 => e.setK q5 v2 fun e => k e M nx
noncomputable def R35_7 : RegF := fun call e M nx k => e.getK q1 fun v0 => VV.onAny v0 (VV.onAny v0 (e.setK q7 v0 fun e => k e M nx))
noncomputable def R35_8 : RegF := fun call e M nx k => e.getK q2 fun v0 => e.getK q6 fun v1 => e.getK q7 fun v2 => VV.onAny v0 (VV.onAny v1 (VV.onAny v2 (cvV call v1 [v2] M nx fun v3 M nx => bslV 3 1 1 [(.i (.ofNat 0))] [(0, 1, v3)] M nx fun v4 M nx => appV 3 1 8 v0 v4 M nx fun v5 M nx => VV.onAny v5 (e.setK q2 v5 fun e => k e M nx))))
noncomputable def R35_9 : RegF := fun call e M nx k => e.getK q1 fun v0 => v_add v0 (.i (.ofNat 1)) fun v1 => VV.onAny v1 (e.setK q1 v1 fun e => k e M nx)
noncomputable def R35_10 : RegF := fun call e M nx k => VV.onAny (.nils) (e.setK q8 (.nils) fun e => k e M nx)
noncomputable def S35 : List (P × I) := [(s0, q0), (s15, q1), (s3, q2), (s7, q3), (s14, q4), (s16, q5), (s4, q6), (s5, q7), (s2, q8)]
noncomputable def G35 : F2 := .mk (fun call e M nx k => R35_0 call e M nx fun e M nx => R35_1 call e M nx fun e M nx => e.getK q3 fun v => v.onB fun c => Bool.rec (R35_2 call e M nx fun e M nx => R35_3 call e M nx fun e M nx => (fun (j0 : En → Mem → P → Bool) => R35_5 call e M nx fun e M nx => (fun (j1 : En → Mem → P → Bool) => loopK (fun call e M nx k => R35_6 call e M nx fun e M nx => e.getK q5 fun v => v.onB fun c => Bool.rec (k (.x 0) e M nx) (R35_7 call e M nx fun e M nx => R35_8 call e M nx fun e M nx => R35_9 call e M nx fun e M nx => k .n e M nx) c) call e M nx fun ex e M nx => Ex.rec (j1 e M nx) (k .r e M nx) (fun id => Bool.rec (k (.x id) e M nx) (j1 e M nx) (Nat.beq id 0)) ex) fun e M nx => j0 e M nx) fun e M nx => R35_4 call e M nx fun e M nx => k .r e M nx) (R35_10 call e M nx fun e M nx => k .r e M nx) c) [.t q8] [q0]
noncomputable def R36_0 : RegF := fun call e M nx k => e.getK q0 fun v0 => bxV 30 v0 M nx fun v1 M nx => VV.onAny (.nil) (VV.onAny (.i (.ofNat 0)) (e.setK q2 v1 fun e => e.setK q5 (.nil) fun e => e.setK q6 (.i (.ofNat 0)) fun e => k e M nx))
noncomputable def R36_1 : RegF := fun call e M nx k => e.getK q2 fun v0 => ldV M v0 6 true fun _ v1 => callV call s23 [v1] M nx fun v2 M nx => VV.onAny v2 (v_ext v2 0 fun v3 => v_ext v2 1 fun v4 => VV.onAny v3 (VV.onAny v4 (e.setK q4 v3 fun e => e.setK q1 v4 fun e => k e M nx)))
noncomputable def R36_2 : RegF := fun call e M nx k => e.getK q1 fun v0 => VV.onAny v0 (v_ne v0 (.i (.ofNat 0)) fun v1 => e.setK q3 v1 fun e => k e M nx)
noncomputable def R36_3 : RegF := fun call e M nx k => e.getK q4 fun v0 => VV.onAny v0 (v_bld [.nil, .nils] [(0, 1, v0)] fun v1 => bxV 119 v1 M nx fun v2 M nx => VV.onAny v2 (VV.onAny (.i (.ofNat 0)) (e.setK q5 v2 fun e => e.setK q6 (.i (.ofNat 0)) fun e => k e M nx)))
noncomputable def R36_4 : RegF := fun call e M nx k => e.getK q1 fun v0 => VV.onAny v0 (VV.onAny (.nil) (VV.onAny v0 (e.setK q5 (.nil) fun e => e.setK q6 v0 fun e => k e M nx)))
noncomputable def S36 : List (P × I) := [(s0, q0), (s5, q1), (s1, q2), (s12, q3), (s4, q4), (s2, q5), (s3, q6)]
noncomputable def G36 : F2 := .mk (fun call e M nx k => R36_0 call e M nx fun e M nx => R36_1 call e M nx fun e M nx => R36_2 call e M nx fun e M nx => e.getK q3 fun v => v.onB fun c => Bool.rec (R36_3 call e M nx fun e M nx => k .r e M nx) (R36_4 call e M nx fun e M nx => k .r e M nx) c) [.t q5, .t q6] [q0]
noncomputable def R37_0 : RegF := fun call e M nx k => VV.onAny (.nils) (e.setK q9 (.nils) fun e => k e M nx)
noncomputable def R37_1 : RegF := fun call e M nx k => e.getK q0 fun v0 => VV.onAny v0 (v_nqP false v0 fun v1 => e.setK q5 v1 fun e => k e M nx)
noncomputable def R37_2 : RegF := fun call e M nx k => VV.onAny (.nils) (e.setK q3 (.nils) fun e => k e M nx)
noncomputable def R37_3 : RegF := fun call e M nx k => e.getK q0 fun v0 => e.getK q3 fun v1 => VV.onAny v0 (VV.onAny v0 (v_nck v0 fun v2 => v_fa v2 1 fun v3 => ldV M v3 1 false fun _ v4 => VV.onAny v1 (appV 67 2 16 v4 v1 M nx fun v5 M nx => v_nck v0 fun v6 => v_fa v6 1 fun v7 => stV M v7 v5 1 fun M => k e M nx)))
noncomputable def R37_4 : RegF := fun call e M nx k => e.getK q3 fun v0 => VV.onAny v0 (VV.onAny v0 (e.setK q9 v0 fun e => k e M nx))
noncomputable def R37_5 : RegF := fun call e M nx k => e.getK q2 fun v0 => VV.onAny v0 (v_min v0 (.i (.ofNat 4096)) fun v1 => v_max v1 (.i (.ofNat 0)) fun v2 => VV.onAny (.i (.ofNat 0)) (e.setK q6 v2 fun e => e.setK q4 (.i (.ofNat 0)) fun e => k e M nx))
noncomputable def R37_6 : RegF := fun call e M nx k => e.getK q4 fun v0 => e.getK q6 fun v1 => v_lt v0 v1 fun v2 => e.setK q7 v2 fun e => k e M nx
noncomputable def R37_7 : RegF := fun call e M nx k => e.getK q0 fun v0 => VV.onAny v0 (v_nck v0 fun v1 => v_fa v1 0 fun v2 => ldV M v2 1 false fun _ v3 => callV call s84 [v3] M nx fun v4 M nx => alV 3 [(.i (.ofNat 0))] M nx fun v5 M nx => stV M v5 v4 1 fun M => e.setK q8 v5 fun e => k e M nx)
noncomputable def R37_8 : RegF := fun call e M nx k => e.getK q3 fun v0 => e.getK q0 fun v1 => e.getK q1 fun v2 => e.getK q8 fun v3 => (fun M0 => VV.onAny v0 (VV.onAny v1 (v_nck v1 fun v4 => v_fa v4 0 fun v5 => ldV M v5 1 false fun bv6 v6 => VV.onAny v2 (v_mkf s86 [] [v3] fun v7 => callV call s85 [v2, v7] M nx fun v8 M nx => callV call s15 [v6, v8] M nx fun v9 M nx => bslV 67 2 1 [(.i (.ofNat 0)), (.bool false)] [(0, 2, v9)] M nx fun v10 M nx => appV 67 2 16 v0 v10 M nx fun v11 M nx => VV.onAny v11 (Bool.rec false (e.setK q3 v11 fun e => k e M nx) (keptB M0 M (bv6 :: []))))))) M
noncomputable def R37_9 : RegF := fun call e M nx k => e.getK q4 fun v0 => v_add v0 (.i (.ofNat 1)) fun v1 => VV.onAny v1 (e.setK q4 v1 fun e => k e M nx)
noncomputable def R37_10 : RegF := fun call e M nx k => VV.onAny (.nils) (e.setK q9 (.nils) fun e => k e M nx)
noncomputable def S37 : List (P × I) := [(s0, q0), (s1, q1), (s2, q2), (s7, q3), (s14, q4), (s10, q5), (s13, q6), (s15, q7), (s8, q8), (s6, q9)]
noncomputable def G37 : F2 := .mk (fun call e M nx k => R37_0 call e M nx fun e M nx => R37_1 call e M nx fun e M nx => e.getK q5 fun v => v.onB fun c => Bool.rec (R37_2 call e M nx fun e M nx => (fun (j0 : En → Mem → P → Bool) => R37_5 call e M nx fun e M nx => (fun (j1 : En → Mem → P → Bool) => loopK (fun call e M nx k => R37_6 call e M nx fun e M nx => e.getK q7 fun v => v.onB fun c => Bool.rec (k (.x 0) e M nx) (R37_7 call e M nx fun e M nx => R37_8 call e M nx fun e M nx => R37_9 call e M nx fun e M nx => k .n e M nx) c) call e M nx fun ex e M nx => Ex.rec (j1 e M nx) (k .r e M nx) (fun id => Bool.rec (k (.x id) e M nx) (j1 e M nx) (Nat.beq id 0)) ex) fun e M nx => j0 e M nx) fun e M nx => R37_3 call e M nx fun e M nx => R37_4 call e M nx fun e M nx => k .r e M nx) (R37_10 call e M nx fun e M nx => k .r e M nx) c) [.t q9] [q0, q1, q2]
noncomputable def R38_0 : RegF := fun call e M nx k => VV.onAny (.nils) (e.setK q2 (.nils) fun e => k e M nx)
noncomputable def R38_1 : RegF := fun call e M nx k => e.getK q0 fun v0 => VV.onAny v0 (v_nqP false v0 fun v1 => e.setK q1 v1 fun e => k e M nx)
noncomputable def R38_2 : RegF := fun call e M nx k => e.getK q0 fun v0 => VV.onAny v0 (v_nck v0 fun v1 => v_fa v1 12 fun v2 => ldV M v2 1 false fun _ v3 => callV call s87 [v3] M nx fun v4 M nx => VV.onAny v4 (e.setK q2 v4 fun e => k e M nx))
noncomputable def R38_3 : RegF := fun call e M nx k => VV.onAny (.nils) (e.setK q2 (.nils) fun e => k e M nx)
noncomputable def S38 : List (P × I) := [(s0, q0), (s4, q1), (s2, q2)]
noncomputable def G38 : F2 := .mk (fun call e M nx k => R38_0 call e M nx fun e M nx => R38_1 call e M nx fun e M nx => e.getK q1 fun v => v.onB fun c => Bool.rec (R38_2 call e M nx fun e M nx => k .r e M nx) (R38_3 call e M nx fun e M nx => k .r e M nx) c) [.t q2] [q0]
noncomputable def R39_0 : RegF := fun call e M nx k => VV.onAny (.nils) (e.setK q2 (.nils) fun e => k e M nx)
noncomputable def R39_1 : RegF := fun call e M nx k => e.getK q0 fun v0 => VV.onAny v0 (v_nqP false v0 fun v1 => e.setK q1 v1 fun e => k e M nx)
noncomputable def R39_2 : RegF := fun call e M nx k => e.getK q0 fun v0 => VV.onAny v0 (v_nck v0 fun v1 => v_fa v1 11 fun v2 => ldV M v2 1 false fun _ v3 => callV call s88 [v3] M nx fun v4 M nx => VV.onAny v4 (e.setK q2 v4 fun e => k e M nx))
noncomputable def R39_3 : RegF := fun call e M nx k => VV.onAny (.nils) (e.setK q2 (.nils) fun e => k e M nx)
noncomputable def S39 : List (P × I) := [(s0, q0), (s4, q1), (s2, q2)]
noncomputable def G39 : F2 := .mk (fun call e M nx k => R39_0 call e M nx fun e M nx => R39_1 call e M nx fun e M nx => e.getK q1 fun v => v.onB fun c => Bool.rec (R39_2 call e M nx fun e M nx => k .r e M nx) (R39_3 call e M nx fun e M nx => k .r e M nx) c) [.t q2] [q0]
noncomputable def R40_0 : RegF := fun call e M nx k => VV.onAny (.bool false) (e.setK q8 (.bool false) fun e => k e M nx)
noncomputable def R40_1 : RegF := fun call e M nx k => VV.onAny (.bool true) (e.setK q8 (.bool true) fun e => k e M nx)
noncomputable def R40_2 : RegF := fun call e M nx k => e.getK q2 fun v0 => e.getK q0 fun v1 => VV.onAny v0 (VV.onAny v1 (v_lenS v1 fun v2 => v_min v0 v2 fun v3 => VV.onAny (.i (.ofNat 0)) (e.setK q4 v3 fun e => e.setK q3 (.i (.ofNat 0)) fun e => k e M nx)))
noncomputable def R40_3 : RegF := fun call e M nx k => e.getK q3 fun v0 => e.getK q4 fun v1 => v_lt v0 v1 fun v2 => e.setK q5 v2 fun e => k e M nx
noncomputable def R40_4 : RegF := fun call e M nx k => e.getK q3 fun v0 => VV.onAny v0 (VV.onAny v0 (e.setK q6 v0 fun e => k e M nx))
noncomputable def R40_5 : RegF := fun call e M nx k => e.getK q0 fun v0 => e.getK q1 fun v1 => e.getK q2 fun v2 => e.getK q6 fun v3 => VV.onAny v0 (VV.onAny v1 (VV.onAny v2 (VV.onAny v3 (callV call s90 [v0, v1, v2, v3] M nx fun v4 M nx => VV.onAny v3 (callV call s89 [v4, v3] M nx fun v5 M nx => e.setK q7 v5 fun e => k e M nx)))))
noncomputable def R40_6 : RegF := fun call e M nx k => e.getK q3 fun v0 => v_add v0 (.i (.ofNat 1)) fun v1 => VV.onAny v1 (e.setK q3 v1 fun e => k e M nx)
noncomputable def R40_7 : RegF := fun call e M nx k => VV.onAny (.bool false) (e.setK q8 (.bool false) fun e => k e M nx)
noncomputable def S40 : List (P × I) := [(s0, q0), (s1, q1), (s2, q2), (s12, q3), (s11, q4), (s13, q5), (s7, q6), (s21, q7), (s6, q8)]
noncomputable def G40 : F2 := .mk (fun call e M nx k => R40_0 call e M nx fun e M nx => (fun (j0 : En → Mem → P → Bool) => R40_2 call e M nx fun e M nx => (fun (j1 : En → Mem → P → Bool) => loopK (fun call e M nx k => R40_3 call e M nx fun e M nx => e.getK q5 fun v => v.onB fun c => Bool.rec (k (.x 0) e M nx) (R40_4 call e M nx fun e M nx => R40_5 call e M nx fun e M nx => e.getK q7 fun v => v.onB fun c => Bool.rec (R40_6 call e M nx fun e M nx => k .n e M nx) (R40_7 call e M nx fun e M nx => k .r e M nx) c) c) call e M nx fun ex e M nx => Ex.rec (j1 e M nx) (k .r e M nx) (fun id => Bool.rec (k (.x id) e M nx) (j1 e M nx) (Nat.beq id 0)) ex) fun e M nx => j0 e M nx) fun e M nx => R40_1 call e M nx fun e M nx => k .r e M nx) [.t q8] [q0, q1, q2]
noncomputable def R41_0 : RegF := fun call e M nx k => e.getK q0 fun v0 => bxV 84 v0 M nx fun v1 M nx => VV.onAny (.nils) (e.setK q4 v1 fun e => e.setK q10 (.nils) fun e => k e M nx)
noncomputable def R41_1 : RegF := fun call e M nx k => VV.onAny (.nils) (e.setK q3 (.nils) fun e => k e M nx)
noncomputable def R41_2 : RegF := fun call e M nx k => e.getK q3 fun v0 => VV.onAny v0 (VV.onAny v0 (e.setK q10 v0 fun e => k e M nx))
noncomputable def R41_3 : RegF := fun call e M nx k => e.getK q4 fun v0 => v_fa v0 1 fun v1 => ldV M v1 1 false fun _ v2 => v_lenS v2 fun v3 => VV.onAny (.i (.ofNat 0)) (e.setK q7 v2 fun e => e.setK q5 v3 fun e => e.setK q1 (.i (.ofNat 0)) fun e => k e M nx)
noncomputable def R41_4 : RegF := fun call e M nx k => e.getK q1 fun v0 => e.getK q5 fun v1 => v_lt v0 v1 fun v2 => e.setK q6 v2 fun e => k e M nx
noncomputable def R41_5 : RegF := fun call e M nx k => e.getK q7 fun v0 => e.getK q1 fun v1 => v_ixS v0 v1 21 fun v2 => ldV M v2 21 true fun _ v3 => alV 109 (rep 9 (.i (.ofNat 0)) ++ [(.bool false), (.i (.ofNat 0)), (.i (.ofNat 0)), (.i (.ofNat 0)), (.str []), (.bool false), (.i (.ofNat 0)), (.i (.ofNat 0)), (.i (.ofNat 0)), (.i (.ofNat 0)), (.i (.ofNat 0)), .nils]) M nx fun v4 M nx => stV M v4 v3 21 fun M => e.setK q2 v4 fun e => k e M nx
noncomputable def R41_6 : RegF := fun call e M nx k => VV.onAny (.i (.negSucc 0)) (e.setK q9 (.i (.negSucc 0)) fun e => k e M nx)
noncomputable def R41_7 : RegF := fun call e M nx k => e.getK q3 fun v0 => e.getK q9 fun v1 => VV.onAny v0 (VV.onAny v1 (bslV 3 1 1 [(.i (.ofNat 0))] [(0, 1, v1)] M nx fun v2 M nx => appV 3 1 8 v0 v2 M nx fun v3 M nx => VV.onAny v3 (e.setK q3 v3 fun e => k e M nx)))
noncomputable def R41_8 : RegF := fun call e M nx k => e.getK q1 fun v0 => v_add v0 (.i (.ofNat 1)) fun v1 => VV.onAny v1 (e.setK q1 v1 fun e => k e M nx)
noncomputable def R41_9 : RegF := fun call e M nx k => e.getK q2 fun v0 => v_fa v0 5 fun v1 => ldV M v1 1 false fun _ v2 => v_eq v2 (.i (.ofNat 2)) fun v3 => e.setK q8 v3 fun e => k e M nx
noncomputable def R41_10 : RegF := fun call e M nx k => e.getK q2 fun v0 => v_fa v0 6 fun v1 => ldV M v1 1 false fun _ v2 => VV.onAny v2 (e.setK q9 v2 fun e => k e M nx)
noncomputable def S41 : List (P × I) := [(s0, q0), (s10, q1), (s5, q2), (s3, q3), (s1, q4), (s9, q5), (s11, q6), (s8, q7), (s16, q8), (s6, q9), (s2, q10)]
noncomputable def G41 : F2 := .mk (fun call e M nx k => R41_0 call e M nx fun e M nx => R41_1 call e M nx fun e M nx => (fun (j0 : En → Mem → P → Bool) => R41_3 call e M nx fun e M nx => (fun (j1 : En → Mem → P → Bool) => loopK (fun call e M nx k => R41_4 call e M nx fun e M nx => e.getK q6 fun v => v.onB fun c => Bool.rec (k (.x 0) e M nx) (R41_5 call e M nx fun e M nx => R41_6 call e M nx fun e M nx => (fun (j2 : En → Mem → P → Bool) => R41_9 call e M nx fun e M nx => (fun (j3 : En → Mem → P → Bool) => e.getK q8 fun v => v.onB fun c => Bool.rec (j3 e M nx) (R41_10 call e M nx fun e M nx => j3 e M nx) c) fun e M nx => j2 e M nx) fun e M nx => R41_7 call e M nx fun e M nx => R41_8 call e M nx fun e M nx => k .n e M nx) c) call e M nx fun ex e M nx => Ex.rec (j1 e M nx) (k .r e M nx) (fun id => Bool.rec (k (.x id) e M nx) (j1 e M nx) (Nat.beq id 0)) ex) fun e M nx => j0 e M nx) fun e M nx => R41_2 call e M nx fun e M nx => k .r e M nx) [.t q10] [q0]
noncomputable def R42_0 : RegF := fun call e M nx k => e.getK q0 fun v0 => bxV 30 v0 M nx fun v1 M nx => VV.onAny (.bool false) (e.setK q1 v1 fun e => e.setK q18 (.bool false) fun e => k e M nx)
noncomputable def R42_1 : RegF := fun call e M nx k => e.getK q1 fun v0 => v_fa v0 0 fun v1 => ldV M v1 1 false fun _ v2 => v_lenS v2 fun v3 => v_lt (.i (.ofNat 8)) v3 fun v4 => VV.onAny v4 (gdK v4 false .off M nx (fun j => v_fa v0 1 fun v => j v M nx) fun v5 M nx => gdK v4 false .off M nx (fun j => ldV M v5 1 false fun _ v => j v M nx) fun v6 M nx => gdK v4 false .off M nx (fun j => v_lenS v6 fun v => j v M nx) fun v7 M nx => gdK v4 false .off M nx (fun j => v_lt (.i (.ofNat 6)) v7 fun v => j v M nx) fun v8 M nx => v_pick v4 (.bool true) v8 fun v9 => VV.onAny v9 (gdK v9 false .off M nx (fun j => v_fa v0 3 fun v => j v M nx) fun v10 M nx => gdK v9 false .off M nx (fun j => ldV M v10 1 false fun _ v => j v M nx) fun v11 M nx => gdK v9 false .off M nx (fun j => v_lenS v11 fun v => j v M nx) fun v12 M nx => gdK v9 false .off M nx (fun j => v_lt (.i (.ofNat 4)) v12 fun v => j v M nx) fun v13 M nx => v_pick v9 (.bool true) v13 fun v14 => VV.onAny v14 (gdK v14 false .off M nx (fun j => v_fa v0 4 fun v => j v M nx) fun v15 M nx => gdK v14 false .off M nx (fun j => ldV M v15 1 false fun _ v => j v M nx) fun v16 M nx => gdK v14 false .no M nx (fun j => callV call s91 [v16, (.i (.ofNat 8)), (.i (.ofNat 64))] M nx fun v M nx => j v M nx) fun v17 M nx => gdK v14 false .off M nx (fun j => v_not v17 fun v => j v M nx) fun v18 M nx => v_pick v14 (.bool true) v18 fun v19 => VV.onAny v19 (gdK v19 false .off M nx (fun j => v_fa v0 5 fun v => j v M nx) fun v20 M nx => gdK v19 false .off M nx (fun j => ldV M v20 1 false fun _ v => j v M nx) fun v21 M nx => gdK v19 false .no M nx (fun j => callV call s91 [v21, (.i (.ofNat 1)), (.i (.ofNat 1099511627776))] M nx fun v M nx => j v M nx) fun v22 M nx => gdK v19 false .off M nx (fun j => v_not v22 fun v => j v M nx) fun v23 M nx => v_pick v19 (.bool true) v23 fun v24 => e.setK q6 v24 fun e => k e M nx))))
noncomputable def R42_2 : RegF := fun call e M nx k => VV.onAny (.bool false) (e.setK q18 (.bool false) fun e => k e M nx)
noncomputable def R42_3 : RegF := fun call e M nx k => e.getK q1 fun v0 => v_fa v0 2 fun v1 => ldV M v1 1 false fun _ v2 => callV call s48 [v2] M nx fun v3 M nx => VV.onAny v3 (v_ext v3 0 fun v4 => v_ext v3 1 fun v5 => VV.onAny v4 (VV.onAny v5 (e.setK q7 v5 fun e => k e M nx)))
noncomputable def R42_4 : RegF := fun call e M nx k => e.getK q7 fun v0 => VV.onAny v0 (v_ne v0 (.i (.ofNat 0)) fun v1 => e.setK q8 v1 fun e => k e M nx)
noncomputable def R42_5 : RegF := fun call e M nx k => VV.onAny (.bool false) (e.setK q18 (.bool false) fun e => k e M nx)
noncomputable def R42_6 : RegF := fun call e M nx k => mkmV M nx fun v0 M nx => VV.onAny v0 (e.setK q5 v0 fun e => k e M nx)
noncomputable def R42_7 : RegF := fun call e M nx k => e.getK q1 fun v0 => v_fa v0 0 fun v1 => ldV M v1 1 false fun _ v2 => v_lenS v2 fun v3 => VV.onAny (.i (.ofNat 0)) (e.setK q11 v2 fun e => e.setK q9 v3 fun e => e.setK q2 (.i (.ofNat 0)) fun e => k e M nx)
noncomputable def R42_8 : RegF := fun call e M nx k => e.getK q2 fun v0 => e.getK q9 fun v1 => v_lt v0 v1 fun v2 => e.setK q10 v2 fun e => k e M nx
noncomputable def R42_9 : RegF := fun call e M nx k => e.getK q11 fun v0 => e.getK q2 fun v1 => v_ixS v0 v1 8 fun v2 => ldV M v2 8 true fun _ v3 => alV 37 [(.i (.ofNat 0)), (.i (.ofNat 0)), (.i (.ofNat 0)), (.i (.ofNat 0)), (.i (.ofNat 0)), (.i (.ofNat 0)), .nils, .nils] M nx fun v4 M nx => stV M v4 v3 8 fun M => e.setK q4 v4 fun e => k e M nx
noncomputable def R42_10 : RegF := fun call e M nx k => e.getK q1 fun v0 => e.getK q4 fun v1 => e.getK q5 fun v2 => ldV M v0 6 true fun _ v3 => ldV M v1 8 true fun _ v4 => callV call s92 [v3, v4] M nx fun v5 M nx => v_not v5 fun v6 => VV.onAny v6 (gdK v6 false .off M nx (fun j => v_fa v1 5 fun v => j v M nx) fun v7 M nx => gdK v6 false .off M nx (fun j => ldV M v7 1 false fun _ v => j v M nx) fun v8 M nx => gdK v6 false .off M nx (fun j => v_le (.i (.ofNat 0)) v8 fun v => j v M nx) fun v9 M nx => gdK v6 false .off M nx (fun j => v_mv v9 fun v => j v M nx) fun v10 M nx => gdK v10 true .off M nx (fun j => v_mv v2 fun v => j v M nx) fun v11 M nx => gdK v10 true .off M nx (fun j => v_fa v1 5 fun v => j v M nx) fun v12 M nx => gdK v10 true .off M nx (fun j => ldV M v12 1 false fun _ v => j v M nx) fun v13 M nx => gdK v10 true .no M nx (fun j => lkuV (.i (.ofNat 0)) false v11 v13 M fun v => j v M nx) fun v14 M nx => gdK v10 true .off M nx (fun j => v_lt (.i (.ofNat 0)) v14 fun v => j v M nx) fun v15 M nx => gdK v6 false .off M nx (fun j => v_pick v10 v15 (.bool false) fun v => j v M nx) fun v16 M nx => v_pick v6 (.bool true) v16 fun v17 => e.setK q12 v17 fun e => k e M nx)
noncomputable def R42_11 : RegF := fun call e M nx k => VV.onAny (.bool false) (e.setK q18 (.bool false) fun e => k e M nx)
noncomputable def R42_12 : RegF := fun call e M nx k => e.getK q5 fun v0 => e.getK q4 fun v1 => VV.onAny v0 (v_fa v1 5 fun v2 => ldV M v2 1 false fun _ v3 => lkuV (.i (.ofNat 0)) false v0 v3 M fun v4 => v_add v4 (.i (.ofNat 1)) fun v5 => mupV v0 v3 v5 M fun M => k e M nx)
noncomputable def R42_13 : RegF := fun call e M nx k => e.getK q2 fun v0 => v_add v0 (.i (.ofNat 1)) fun v1 => VV.onAny v1 (e.setK q2 v1 fun e => k e M nx)
noncomputable def R42_14 : RegF := fun call e M nx k => e.getK q1 fun v0 => v_fa v0 1 fun v1 => ldV M v1 1 false fun _ v2 => v_lenS v2 fun v3 => VV.onAny (.i (.ofNat 0)) (e.setK q15 v2 fun e => e.setK q13 v3 fun e => e.setK q3 (.i (.ofNat 0)) fun e => k e M nx)
noncomputable def R42_15 : RegF := fun call e M nx k => e.getK q3 fun v0 => e.getK q13 fun v1 => v_lt v0 v1 fun v2 => e.setK q14 v2 fun e => k e M nx
noncomputable def R42_16 : RegF := fun call e M nx k => e.getK q15 fun v0 => e.getK q3 fun v1 => v_ixS v0 v1 2 fun v2 => ldV M v2 2 true fun _ v3 => alV 39 [(.i (.ofNat 0)), .nils] M nx fun v4 M nx => stV M v4 v3 2 fun M => e.setK q16 v4 fun e => k e M nx
noncomputable def R42_17 : RegF := fun call e M nx k => e.getK q16 fun v0 => v_fa v0 0 fun v1 => ldV M v1 1 false fun _ v2 => callV call s91 [v2, (.i (.ofNat 0)), (.i (.ofNat 15))] M nx fun v3 M nx => v_not v3 fun v4 => VV.onAny v4 (gdK v4 false .off M nx (fun j => v_fa v0 1 fun v => j v M nx) fun v5 M nx => gdK v4 false .off M nx (fun j => ldV M v5 1 false fun _ v => j v M nx) fun v6 M nx => gdK v4 false .off M nx (fun j => v_lenS v6 fun v => j v M nx) fun v7 M nx => gdK v4 false .off M nx (fun j => v_lt (.i (.ofNat 40)) v7 fun v => j v M nx) fun v8 M nx => v_pick v4 (.bool true) v8 fun v9 => e.setK q17 v9 fun e => k e M nx)
noncomputable def R42_18 : RegF := fun call e M nx k => VV.onAny (.bool false) (e.setK q18 (.bool false) fun e => k e M nx)
noncomputable def R42_19 : RegF := fun call e M nx k => e.getK q3 fun v0 => v_add v0 (.i (.ofNat 1)) fun v1 => VV.onAny v1 (e.setK q3 v1 fun e => k e M nx)
noncomputable def R42_20 : RegF := fun call e M nx k => e.getK q1 fun v0 => v_fa v0 3 fun v1 => ldV M v1 1 false fun _ v2 => callV call s93 [v2, (.fn s94 [] [])] M nx fun v3 M nx => v_not v3 fun v4 => VV.onAny v4 (e.setK q18 v4 fun e => k e M nx)
noncomputable def S42 : List (P × I) := [(s0, q0), (s1, q1), (s50, q2), (s79, q3), (s7, q4), (s5, q5), (s37, q6), (s4, q7), (s45, q8), (s49, q9), (s51, q10), (s48, q11), (s69, q12), (s78, q13), (s80, q14), (s77, q15), (s9, q16), (s92, q17), (s2, q18)]
noncomputable def G42 : F2 := .mk ((c_seq (c_fn R42_0) (c_seq (c_seq (c_fn R42_1) (c_cond (.t q6) (c_seq (c_fn R42_2) c_ret) c_skip)) (c_seq (c_seq (c_fn R42_3) (c_seq (c_fn R42_4) (c_cond (.t q8) (c_seq (c_fn R42_5) c_ret) c_skip))) (c_seq (c_fn R42_6) (c_seq (c_seq (c_fn R42_7) (c_blk 0 (loopK (c_seq (c_fn R42_8) (c_seq (c_cond (.t q10) c_skip (c_exit 0)) (c_seq (c_blk 1 (c_seq (c_fn R42_9) (c_seq (c_seq (c_fn R42_10) (c_cond (.t q12) (c_seq (c_fn R42_11) c_ret) c_skip)) (c_fn R42_12)))) (c_fn R42_13))))))) (c_seq (c_seq (c_fn R42_14) (c_blk 2 (loopK (c_seq (c_fn R42_15) (c_seq (c_cond (.t q14) c_skip (c_exit 2)) (c_seq (c_blk 3 (c_seq (c_fn R42_16) (c_seq (c_fn R42_17) (c_cond (.t q17) (c_seq (c_fn R42_18) c_ret) c_skip)))) (c_fn R42_19))))))) (c_seq (c_fn R42_20) c_ret)))))))) [.t q18] [q0]
noncomputable def R43_0 : RegF := fun call e M nx k => VV.onAny (.nils) (e.setK q2 (.nils) fun e => k e M nx)
noncomputable def R43_1 : RegF := fun call e M nx k => e.getK q0 fun v0 => VV.onAny v0 (v_nqS false v0 fun v1 => e.setK q1 v1 fun e => k e M nx)
noncomputable def R43_2 : RegF := fun call e M nx k => e.getK q0 fun v0 => bslV 3 1 0 [] [] M nx fun v1 M nx => VV.onAny v0 (appV 3 1 8 v1 v0 M nx fun v2 M nx => VV.onAny v2 (e.setK q2 v2 fun e => k e M nx))
noncomputable def R43_3 : RegF := fun call e M nx k => VV.onAny (.nils) (e.setK q2 (.nils) fun e => k e M nx)
noncomputable def S43 : List (P × I) := [(s0, q0), (s4, q1), (s2, q2)]
noncomputable def G43 : F2 := .mk (fun call e M nx k => R43_0 call e M nx fun e M nx => R43_1 call e M nx fun e M nx => e.getK q1 fun v => v.onB fun c => Bool.rec (R43_2 call e M nx fun e M nx => k .r e M nx) (R43_3 call e M nx fun e M nx => k .r e M nx) c) [.t q2] [q0]
noncomputable def R44_0 : RegF := fun call e M nx k => e.getK q1 fun v0 => bxV 109 v0 M nx fun v1 M nx => e.setK q3 v1 fun e => k e M nx
noncomputable def R44_1 : RegF := fun call e M nx k => e.getK q0 fun v0 => e.getK q3 fun v1 => (fun M0 => VV.onAny v0 (VV.onAny v0 (v_nck v0 fun v2 => v_fa v2 2 fun v3 => ldV M v3 1 false fun _ v4 => ldV M v1 21 true fun _ v5 => bslV 109 21 1 (rep 9 (.i (.ofNat 0)) ++ [(.bool false), (.i (.ofNat 0)), (.i (.ofNat 0)), (.i (.ofNat 0)), (.str []), (.bool false), (.i (.ofNat 0)), (.i (.ofNat 0)), (.i (.ofNat 0)), (.i (.ofNat 0)), (.i (.ofNat 0)), .nils]) [(0, 21, v5)] M nx fun v6 M nx => appV 109 21 192 v4 v6 M nx fun v7 M nx => v_nck v0 fun v8 => v_fa v8 2 fun v9 => Bool.rec false (stV M v9 v7 1 fun M => k e M nx) (keptB M0 M [])))) M
noncomputable def R44_2 : RegF := fun call e M nx k => e.getK q0 fun v0 => e.getK q2 fun v1 => VV.onAny v0 (VV.onAny v0 (v_nck v0 fun v2 => v_fa v2 3 fun v3 => ldV M v3 1 false fun _ v4 => VV.onAny v1 (bslV 35 1 1 [.nils] [(0, 1, v1)] M nx fun v5 M nx => appV 35 1 24 v4 v5 M nx fun v6 M nx => v_nck v0 fun v7 => v_fa v7 3 fun v8 => stV M v8 v6 1 fun M => k e M nx)))
noncomputable def S44 : List (P × I) := [(s0, q0), (s1, q1), (s2, q2), (s4, q3)]
noncomputable def G44 : F2 := .mk (fun call e M nx k => R44_0 call e M nx fun e M nx => R44_1 call e M nx fun e M nx => R44_2 call e M nx fun e M nx => k .n e M nx) [] [q0, q1, q2]
noncomputable def R45_0 : RegF := fun call e M nx k => e.getK q1 fun v0 => bxV 37 v0 M nx fun v1 M nx => alV 109 (rep 9 (.i (.ofNat 0)) ++ [(.bool false), (.i (.ofNat 0)), (.i (.ofNat 0)), (.i (.ofNat 0)), (.str []), (.bool false), (.i (.ofNat 0)), (.i (.ofNat 0)), (.i (.ofNat 0)), (.i (.ofNat 0)), (.i (.ofNat 0)), .nils]) M nx fun v2 M nx => e.setK q3 v1 fun e => e.setK q2 v2 fun e => k e M nx
noncomputable def R45_1 : RegF := fun call e M nx k => e.getK q0 fun v0 => e.getK q3 fun v1 => e.getK q2 fun v2 => VV.onAny v0 (v_fa v1 0 fun v3 => ldV M v3 1 false fun _ v4 => v_fa v1 1 fun v5 => ldV M v5 1 false fun _ v6 => v_bld [(.i (.ofNat 0)), (.i (.ofNat 0)), (.i (.ofNat 0))] [(0, 1, v4), (1, 1, v6)] fun v7 => callV call s95 [v0, v7, (.i (.ofNat 0))] M nx fun v8 M nx => stV M v2 v8 21 fun M => k e M nx)
noncomputable def S45 : List (P × I) := [(s0, q0), (s1, q1), (s4, q2), (s3, q3)]
noncomputable def G45 : F2 := .mk (fun call e M nx k => R45_0 call e M nx fun e M nx => R45_1 call e M nx fun e M nx => k .r e M nx) [.c q2 21 true] [q0, q1]
noncomputable def R46_0 : RegF := fun call e M nx k => VV.onAny (.nils) (e.setK q8 (.nils) fun e => k e M nx)
noncomputable def R46_1 : RegF := fun call e M nx k => VV.onAny (.nils) (e.setK q3 (.nils) fun e => k e M nx)
noncomputable def R46_2 : RegF := fun call e M nx k => e.getK q3 fun v0 => VV.onAny v0 (VV.onAny v0 (e.setK q8 v0 fun e => k e M nx))
noncomputable def R46_3 : RegF := fun call e M nx k => e.getK q0 fun v0 => VV.onAny v0 (VV.onAny v0 (v_lenS v0 fun v1 => v_min v1 (.i (.ofNat 40)) fun v2 => v_slH v0 v2 fun v3 => v_lenS v3 fun v4 => VV.onAny (.i (.ofNat 0)) (e.setK q6 v3 fun e => e.setK q4 v4 fun e => e.setK q1 (.i (.ofNat 0)) fun e => k e M nx)))
noncomputable def R46_4 : RegF := fun call e M nx k => e.getK q1 fun v0 => e.getK q4 fun v1 => v_lt v0 v1 fun v2 => e.setK q5 v2 fun e => k e M nx
noncomputable def R46_5 : RegF := fun call e M nx k => e.getK q6 fun v0 => e.getK q1 fun v1 => v_ixS v0 v1 9 fun v2 => ldV M v2 9 true fun _ v3 => alV 34 [(.i (.ofNat 0)), (.i (.ofNat 0)), (.i (.ofNat 0)), (.i (.ofNat 0)), (.i (.ofNat 0)), (.i (.ofNat 0)), (.i (.ofNat 0)), (.str []), (.str [])] M nx fun v4 M nx => stV M v4 v3 9 fun M => e.setK q2 v4 fun e => k e M nx
noncomputable def R46_6 : RegF := fun call e M nx k => e.getK q3 fun v0 => e.getK q2 fun v1 => VV.onAny v0 (ldV M v1 9 true fun _ v2 => bslV 34 9 1 [(.i (.ofNat 0)), (.i (.ofNat 0)), (.i (.ofNat 0)), (.i (.ofNat 0)), (.i (.ofNat 0)), (.i (.ofNat 0)), (.i (.ofNat 0)), (.str []), (.str [])] [(0, 9, v2)] M nx fun v3 M nx => appV 34 9 88 v0 v3 M nx fun v4 M nx => VV.onAny v4 (e.setK q3 v4 fun e => k e M nx))
noncomputable def R46_7 : RegF := fun call e M nx k => e.getK q1 fun v0 => v_add v0 (.i (.ofNat 1)) fun v1 => VV.onAny v1 (e.setK q1 v1 fun e => k e M nx)
noncomputable def R46_8 : RegF := fun call e M nx k => e.getK q2 fun v0 => ldV M v0 9 true fun _ v1 => callV call s96 [v1] M nx fun v2 M nx => v_not v2 fun v3 => e.setK q7 v3 fun e => k e M nx
noncomputable def R46_9 : RegF := fun call e M nx k => e.getK q2 fun v0 => v_bld [(.i (.ofNat 0)), (.i (.ofNat 0)), (.i (.ofNat 0)), (.i (.ofNat 0)), (.i (.ofNat 0)), (.i (.ofNat 0)), (.i (.ofNat 0)), (.str []), (.str [])] [] fun v1 => stV M v0 v1 9 fun M => k e M nx
noncomputable def S46 : List (P × I) := [(s0, q0), (s12, q1), (s5, q2), (s3, q3), (s11, q4), (s13, q5), (s10, q6), (s18, q7), (s2, q8)]
noncomputable def G46 : F2 := .mk (fun call e M nx k => R46_0 call e M nx fun e M nx => R46_1 call e M nx fun e M nx => (fun (j0 : En → Mem → P → Bool) => R46_3 call e M nx fun e M nx => (fun (j1 : En → Mem → P → Bool) => loopK (fun call e M nx k => R46_4 call e M nx fun e M nx => e.getK q5 fun v => v.onB fun c => Bool.rec (k (.x 0) e M nx) (R46_5 call e M nx fun e M nx => (fun (j2 : En → Mem → P → Bool) => R46_8 call e M nx fun e M nx => (fun (j3 : En → Mem → P → Bool) => e.getK q7 fun v => v.onB fun c => Bool.rec (j3 e M nx) (R46_9 call e M nx fun e M nx => j3 e M nx) c) fun e M nx => j2 e M nx) fun e M nx => R46_6 call e M nx fun e M nx => R46_7 call e M nx fun e M nx => k .n e M nx) c) call e M nx fun ex e M nx => Ex.rec (j1 e M nx) (k .r e M nx) (fun id => Bool.rec (k (.x id) e M nx) (j1 e M nx) (Nat.beq id 0)) ex) fun e M nx => j0 e M nx) fun e M nx => R46_2 call e M nx fun e M nx => k .r e M nx) [.t q8] [q0]
noncomputable def R47_0 : RegF := fun call e M nx k => e.getK q1 fun v0 => bxV 39 v0 M nx fun v1 M nx => alV 109 (rep 9 (.i (.ofNat 0)) ++ [(.bool false), (.i (.ofNat 0)), (.i (.ofNat 0)), (.i (.ofNat 0)), (.str []), (.bool false), (.i (.ofNat 0)), (.i (.ofNat 0)), (.i (.ofNat 0)), (.i (.ofNat 0)), (.i (.ofNat 0)), .nils]) M nx fun v2 M nx => e.setK q3 v1 fun e => e.setK q2 v2 fun e => k e M nx
noncomputable def R47_1 : RegF := fun call e M nx k => e.getK q0 fun v0 => e.getK q3 fun v1 => e.getK q2 fun v2 => VV.onAny v0 (v_fa v1 0 fun v3 => ldV M v3 1 false fun _ v4 => v_bld [(.i (.ofNat 0)), (.i (.ofNat 0)), (.i (.ofNat 0))] [(0, 1, (.i (.ofNat 0))), (1, 1, v4)] fun v5 => callV call s95 [v0, v5, (.i (.ofNat 1))] M nx fun v6 M nx => stV M v2 v6 21 fun M => k e M nx)
noncomputable def S47 : List (P × I) := [(s0, q0), (s1, q1), (s4, q2), (s3, q3)]
noncomputable def G47 : F2 := .mk (fun call e M nx k => R47_0 call e M nx fun e M nx => R47_1 call e M nx fun e M nx => k .r e M nx) [.c q2 21 true] [q0, q1]
noncomputable def R48_0 : RegF := fun call e M nx k => VV.onAny (.nil) (VV.onAny (.i (.ofNat 0)) (e.setK q2 (.nil) fun e => e.setK q3 (.i (.ofNat 0)) fun e => k e M nx))
noncomputable def R48_1 : RegF := fun call e M nx k => e.getK q0 fun v0 => VV.onAny v0 (v_lenS v0 fun v1 => v_lt (.i (.ofNat 6)) v1 fun v2 => VV.onAny v2 (gdK v2 false .off M nx (fun j => v_mv v0 fun v => j v M nx) fun v3 M nx => gdK v2 false .no M nx (fun j => callV call s97 [v3, (.fn s98 [] [])] M nx fun v M nx => j v M nx) fun v4 M nx => v_pick v2 (.bool true) v4 fun v5 => e.setK q1 v5 fun e => k e M nx))
noncomputable def R48_2 : RegF := fun call e M nx k => e.getK q0 fun v0 => VV.onAny v0 (callV call s100 [v0] M nx fun v1 M nx => v_bld [.nils] [(0, 1, v1)] fun v2 => bxV 193 v2 M nx fun v3 M nx => VV.onAny v3 (VV.onAny (.i (.ofNat 0)) (e.setK q2 v3 fun e => e.setK q3 (.i (.ofNat 0)) fun e => k e M nx)))
noncomputable def R48_3 : RegF := fun call e M nx k => VV.onAny (.nil) (VV.onAny (.i (.ofNat 2)) (e.setK q2 (.nil) fun e => e.setK q3 (.i (.ofNat 2)) fun e => k e M nx))
noncomputable def S48 : List (P × I) := [(s0, q0), (s10, q1), (s2, q2), (s3, q3)]
noncomputable def G48 : F2 := .mk (fun call e M nx k => R48_0 call e M nx fun e M nx => R48_1 call e M nx fun e M nx => e.getK q1 fun v => v.onB fun c => Bool.rec (R48_2 call e M nx fun e M nx => k .r e M nx) (R48_3 call e M nx fun e M nx => k .r e M nx) c) [.t q2, .t q3] [q0]
noncomputable def R49_0 : RegF := fun call e M nx k => VV.onAny (.nil) (e.setK q2 (.nil) fun e => k e M nx)
noncomputable def R49_1 : RegF := fun call e M nx k => e.getK q0 fun v0 => VV.onAny v0 (mkmV M nx fun v1 M nx => mkmV M nx fun v2 M nx => v_bld [.nil, .nilm, .nilm] [(0, 1, v0), (1, 1, v1), (2, 1, v2)] fun v3 => bxV 174 v3 M nx fun v4 M nx => VV.onAny v4 (e.setK q2 v4 fun e => k e M nx))
noncomputable def R49_2 : RegF := fun call e M nx k => e.getK q0 fun v0 => VV.onAny v0 (v_nqP false v0 fun v1 => e.setK q1 v1 fun e => k e M nx)
noncomputable def R49_3 : RegF := fun call e M nx k => callV call s48 [(.nils)] M nx fun v0 M nx => VV.onAny v0 (v_ext v0 0 fun v1 => v_ext v0 1 fun v2 => VV.onAny v1 (e.setK q0 v1 fun e => k e M nx))
noncomputable def S49 : List (P × I) := [(s0, q0), (s4, q1), (s2, q2)]
noncomputable def G49 : F2 := .mk (fun call e M nx k => R49_0 call e M nx fun e M nx => (fun (j0 : En → Mem → P → Bool) => R49_2 call e M nx fun e M nx => (fun (j1 : En → Mem → P → Bool) => e.getK q1 fun v => v.onB fun c => Bool.rec (j1 e M nx) (R49_3 call e M nx fun e M nx => j1 e M nx) c) fun e M nx => j0 e M nx) fun e M nx => R49_1 call e M nx fun e M nx => k .r e M nx) [.t q2] [q0]
noncomputable def R50_0 : RegF := fun call e M nx k => VV.onAny (.nil) (VV.onAny (.i (.ofNat 0)) (e.setK q2 (.nil) fun e => e.setK q3 (.i (.ofNat 0)) fun e => k e M nx))
noncomputable def R50_1 : RegF := fun call e M nx k => e.getK q0 fun v0 => VV.onAny v0 (v_lt v0 (.i (.ofNat 1)) fun v1 => VV.onAny v1 (gdK v1 false .off M nx (fun j => v_mv v0 fun v => j v M nx) fun v2 M nx => gdK v1 false .off M nx (fun j => v_lt (.i (.ofNat 4)) v2 fun v => j v M nx) fun v3 M nx => v_pick v1 (.bool true) v3 fun v4 => e.setK q1 v4 fun e => k e M nx))
noncomputable def R50_2 : RegF := fun call e M nx k => e.getK q0 fun v0 => VV.onAny v0 (mksV 28 1 24 [.nils] v0 v0 M nx fun v1 M nx => v_bld [.nils] [(0, 1, v1)] fun v2 => bxV 196 v2 M nx fun v3 M nx => VV.onAny v3 (VV.onAny (.i (.ofNat 0)) (e.setK q2 v3 fun e => e.setK q3 (.i (.ofNat 0)) fun e => k e M nx)))
noncomputable def R50_3 : RegF := fun call e M nx k => VV.onAny (.nil) (VV.onAny (.i (.ofNat 2)) (e.setK q2 (.nil) fun e => e.setK q3 (.i (.ofNat 2)) fun e => k e M nx))
noncomputable def S50 : List (P × I) := [(s0, q0), (s9, q1), (s2, q2), (s3, q3)]
noncomputable def G50 : F2 := .mk (fun call e M nx k => R50_0 call e M nx fun e M nx => R50_1 call e M nx fun e M nx => e.getK q1 fun v => v.onB fun c => Bool.rec (R50_2 call e M nx fun e M nx => k .r e M nx) (R50_3 call e M nx fun e M nx => k .r e M nx) c) [.t q2, .t q3] [q0]
noncomputable def R51_0 : RegF := fun call e M nx k => VV.onAny (.nil) (VV.onAny (.i (.ofNat 0)) (e.setK q2 (.nil) fun e => e.setK q3 (.i (.ofNat 0)) fun e => k e M nx))
noncomputable def R51_1 : RegF := fun call e M nx k => e.getK q0 fun v0 => VV.onAny v0 (v_lt v0 (.i (.ofNat 0)) fun v1 => VV.onAny v1 (gdK v1 false .off M nx (fun j => v_mv v0 fun v => j v M nx) fun v2 M nx => gdK v1 false .off M nx (fun j => v_le (.i (.ofNat 16777216)) v2 fun v => j v M nx) fun v3 M nx => v_pick v1 (.bool true) v3 fun v4 => e.setK q1 v4 fun e => k e M nx))
noncomputable def R51_2 : RegF := fun call e M nx k => e.getK q0 fun v0 => VV.onAny v0 (v_bld ([(.i (.ofNat 0))] ++ rep 256 .nils ++ [(.i (.ofNat 0))]) [(0, 1, v0)] fun v1 => bxV 149 v1 M nx fun v2 M nx => VV.onAny v2 (VV.onAny (.i (.ofNat 0)) (e.setK q2 v2 fun e => e.setK q3 (.i (.ofNat 0)) fun e => k e M nx)))
noncomputable def R51_3 : RegF := fun call e M nx k => VV.onAny (.nil) (VV.onAny (.i (.ofNat 2)) (e.setK q2 (.nil) fun e => e.setK q3 (.i (.ofNat 2)) fun e => k e M nx))
noncomputable def S51 : List (P × I) := [(s0, q0), (s9, q1), (s2, q2), (s3, q3)]
noncomputable def G51 : F2 := .mk (fun call e M nx k => R51_0 call e M nx fun e M nx => R51_1 call e M nx fun e M nx => e.getK q1 fun v => v.onB fun c => Bool.rec (R51_2 call e M nx fun e M nx => k .r e M nx) (R51_3 call e M nx fun e M nx => k .r e M nx) c) [.t q2, .t q3] [q0]
noncomputable def R53_0 : RegF := fun call e M nx k => VV.onAny (.nil) (VV.onAny (.i (.ofNat 0)) (e.setK q2 (.nil) fun e => e.setK q3 (.i (.ofNat 0)) fun e => k e M nx))
noncomputable def R53_1 : RegF := fun call e M nx k => e.getK q0 fun v0 => VV.onAny v0 (v_lt v0 (.i (.ofNat 1)) fun v1 => VV.onAny v1 (gdK v1 false .off M nx (fun j => v_mv v0 fun v => j v M nx) fun v2 M nx => gdK v1 false .off M nx (fun j => v_lt (.i (.ofNat 1099511627776)) v2 fun v => j v M nx) fun v3 M nx => v_pick v1 (.bool true) v3 fun v4 => e.setK q1 v4 fun e => k e M nx))
noncomputable def R53_2 : RegF := fun call e M nx k => e.getK q0 fun v0 => VV.onAny v0 (v_bld [(.i (.ofNat 0)), (.i (.ofNat 0)), .nils] [(0, 1, v0)] fun v1 => bxV 170 v1 M nx fun v2 M nx => VV.onAny v2 (VV.onAny (.i (.ofNat 0)) (e.setK q2 v2 fun e => e.setK q3 (.i (.ofNat 0)) fun e => k e M nx)))
noncomputable def R53_3 : RegF := fun call e M nx k => VV.onAny (.nil) (VV.onAny (.i (.ofNat 2)) (e.setK q2 (.nil) fun e => e.setK q3 (.i (.ofNat 2)) fun e => k e M nx))
noncomputable def S53 : List (P × I) := [(s0, q0), (s9, q1), (s2, q2), (s3, q3)]
noncomputable def G53 : F2 := .mk (fun call e M nx k => R53_0 call e M nx fun e M nx => R53_1 call e M nx fun e M nx => e.getK q1 fun v => v.onB fun c => Bool.rec (R53_2 call e M nx fun e M nx => k .r e M nx) (R53_3 call e M nx fun e M nx => k .r e M nx) c) [.t q2, .t q3] [q0]
noncomputable def R54_0 : RegF := fun call e M nx k => VV.onAny (.nil) (VV.onAny (.i (.ofNat 0)) (e.setK q5 (.nil) fun e => e.setK q6 (.i (.ofNat 0)) fun e => k e M nx))
noncomputable def R54_1 : RegF := fun call e M nx k => e.getK q0 fun v0 => VV.onAny v0 (callV call s101 [v0] M nx fun v1 M nx => VV.onAny v1 (v_ext v1 0 fun v2 => v_ext v1 1 fun v3 => VV.onAny v2 (VV.onAny v3 (e.setK q2 v2 fun e => e.setK q1 v3 fun e => k e M nx))))
noncomputable def R54_2 : RegF := fun call e M nx k => e.getK q1 fun v0 => VV.onAny v0 (v_ne v0 (.i (.ofNat 0)) fun v1 => e.setK q3 v1 fun e => k e M nx)
noncomputable def R54_3 : RegF := fun call e M nx k => e.getK q2 fun v0 => VV.onAny v0 (callV call s102 [v0] M nx fun v1 M nx => VV.onAny v1 (e.setK q4 v1 fun e => k e M nx))
noncomputable def R54_4 : RegF := fun call e M nx k => e.getK q2 fun v0 => e.getK q4 fun v1 => VV.onAny v0 (VV.onAny v1 (VV.onAny v1 (VV.onAny v0 (callV call s105 [v0] M nx fun v2 M nx => callV call s104 [v2] M nx fun v3 M nx => callV call s103 [v1, v3] M nx fun v4 M nx => callV call s106 [] M nx fun v5 M nx => v_bld [.nil, .nil, .nil, .nil] [(0, 1, v0), (1, 1, v1), (2, 1, v4), (3, 1, v5)] fun v6 => bxV 211 v6 M nx fun v7 M nx => VV.onAny v7 (VV.onAny (.i (.ofNat 0)) (e.setK q5 v7 fun e => e.setK q6 (.i (.ofNat 0)) fun e => k e M nx))))))
noncomputable def R54_5 : RegF := fun call e M nx k => e.getK q1 fun v0 => VV.onAny v0 (VV.onAny (.nil) (VV.onAny v0 (e.setK q5 (.nil) fun e => e.setK q6 v0 fun e => k e M nx)))
noncomputable def S54 : List (P × I) := [(s0, q0), (s5, q1), (s4, q2), (s13, q3), (s6, q4), (s2, q5), (s3, q6)]
noncomputable def G54 : F2 := .mk (fun call e M nx k => R54_0 call e M nx fun e M nx => R54_1 call e M nx fun e M nx => R54_2 call e M nx fun e M nx => e.getK q3 fun v => v.onB fun c => Bool.rec (R54_3 call e M nx fun e M nx => R54_4 call e M nx fun e M nx => k .r e M nx) (R54_5 call e M nx fun e M nx => k .r e M nx) c) [.t q5, .t q6] [q0]
noncomputable def R55_0 : RegF := fun call e M nx k => VV.onAny (.i (.ofNat 0)) (e.setK q5 (.i (.ofNat 0)) fun e => k e M nx)
noncomputable def R55_1 : RegF := fun call e M nx k => e.getK q0 fun v0 => VV.onAny v0 (v_nqP false v0 fun v1 => e.setK q3 v1 fun e => k e M nx)
noncomputable def R55_2 : RegF := fun call e M nx k => e.getK q0 fun v0 => e.getK q1 fun v1 => VV.onAny v0 (v_nck v0 fun v2 => v_fa v2 3 fun v3 => ldV M v3 1 false fun _ v4 => VV.onAny v1 (callV call s107 [v4, v1, (.i (.negSucc 0))] M nx fun v5 M nx => VV.onAny v5 (e.setK q2 v5 fun e => k e M nx)))
noncomputable def R55_3 : RegF := fun call e M nx k => e.getK q2 fun v0 => VV.onAny v0 (v_ne v0 (.i (.ofNat 0)) fun v1 => e.setK q4 v1 fun e => k e M nx)
noncomputable def R55_4 : RegF := fun call e M nx k => e.getK q0 fun v0 => e.getK q1 fun v1 => VV.onAny v0 (v_nck v0 fun v2 => v_fa v2 2 fun v3 => ldV M v3 1 false fun _ v4 => VV.onAny v1 (callV call s108 [v4, v1] M nx fun v5 M nx => VV.onAny v5 (e.setK q5 v5 fun e => k e M nx)))
noncomputable def R55_5 : RegF := fun call e M nx k => e.getK q2 fun v0 => VV.onAny v0 (VV.onAny v0 (e.setK q5 v0 fun e => k e M nx))
noncomputable def R55_6 : RegF := fun call e M nx k => VV.onAny (.i (.ofNat 1)) (e.setK q5 (.i (.ofNat 1)) fun e => k e M nx)
noncomputable def S55 : List (P × I) := [(s0, q0), (s1, q1), (s5, q2), (s7, q3), (s15, q4), (s4, q5)]
noncomputable def G55 : F2 := .mk (fun call e M nx k => R55_0 call e M nx fun e M nx => R55_1 call e M nx fun e M nx => e.getK q3 fun v => v.onB fun c => Bool.rec (R55_2 call e M nx fun e M nx => R55_3 call e M nx fun e M nx => e.getK q4 fun v => v.onB fun c => Bool.rec (R55_4 call e M nx fun e M nx => k .r e M nx) (R55_5 call e M nx fun e M nx => k .r e M nx) c) (R55_6 call e M nx fun e M nx => k .r e M nx) c) [.t q5] [q0, q1]
noncomputable def R56_0 : RegF := fun call e M nx k => VV.onAny (.i (.ofNat 0)) (e.setK q2 (.i (.ofNat 0)) fun e => k e M nx)
noncomputable def R56_1 : RegF := fun call e M nx k => e.getK q0 fun v0 => e.getK q1 fun v1 => VV.onAny v0 (VV.onAny v1 (v_mul (.i (.ofNat 6)) v1 fun v2 => v_conv .u64 v2 fun v3 => v_kop .shr v0 v3 fun v4 => v_kop .and v4 (.i (.ofNat 63)) fun v5 => VV.onAny v5 (e.setK q2 v5 fun e => k e M nx)))
noncomputable def S56 : List (P × I) := [(s0, q0), (s1, q1), (s4, q2)]
noncomputable def G56 : F2 := .mk (fun call e M nx k => R56_0 call e M nx fun e M nx => R56_1 call e M nx fun e M nx => k .r e M nx) [.t q2] [q0, q1]
noncomputable def R57_0 : RegF := fun call e M nx k => VV.onAny (.i (.ofNat 0)) (VV.onAny (.i (.ofNat 0)) (e.setK q5 (.i (.ofNat 0)) fun e => e.setK q6 (.i (.ofNat 0)) fun e => k e M nx))
noncomputable def R57_1 : RegF := fun call e M nx k => e.getK q1 fun v0 => VV.onAny v0 (callV call s56 [v0, (.i (.ofNat 0))] M nx fun v1 M nx => VV.onAny (.i (.ofNat 0)) (VV.onAny v1 (e.setK q5 (.i (.ofNat 0)) fun e => e.setK q6 v1 fun e => k e M nx)))
noncomputable def R57_2 : RegF := fun call e M nx k => VV.onAny (.i (.ofNat 3)) (e.setK q2 (.i (.ofNat 3)) fun e => k e M nx)
noncomputable def R57_3 : RegF := fun call e M nx k => e.getK q2 fun v0 => VV.onAny v0 (v_lt (.i (.ofNat 0)) v0 fun v1 => e.setK q3 v1 fun e => k e M nx)
noncomputable def R57_4 : RegF := fun call e M nx k => e.getK q1 fun v0 => e.getK q2 fun v1 => e.getK q0 fun v2 => (fun M0 => VV.onAny v0 (VV.onAny v1 (callV call s56 [v0, v1] M nx fun v3 M nx => VV.onAny v2 (v_nck v2 fun v4 => v_fa v4 0 fun v5 => ldV M v5 1 false fun bv6 v6 => VV.onAny v1 (callV call s56 [v6, v1] M nx fun v7 M nx => v_ne v3 v7 fun v8 => Bool.rec false (e.setK q4 v8 fun e => k e M nx) (keptB M0 M (bv6 :: []))))))) M
noncomputable def R57_5 : RegF := fun call e M nx k => e.getK q2 fun v0 => VV.onAny v0 (v_sub v0 (.i (.ofNat 1)) fun v1 => VV.onAny v1 (e.setK q2 v1 fun e => k e M nx))
noncomputable def R57_6 : RegF := fun call e M nx k => e.getK q2 fun v0 => e.getK q1 fun v1 => VV.onAny v0 (VV.onAny v1 (VV.onAny v0 (callV call s56 [v1, v0] M nx fun v2 M nx => VV.onAny v0 (VV.onAny v2 (e.setK q5 v0 fun e => e.setK q6 v2 fun e => k e M nx)))))
noncomputable def S57 : List (P × I) := [(s0, q0), (s1, q1), (s6, q2), (s8, q3), (s20, q4), (s4, q5), (s5, q6)]
noncomputable def G57 : F2 := .mk (fun call e M nx k => R57_0 call e M nx fun e M nx => (fun (j0 : En → Mem → P → Bool) => R57_2 call e M nx fun e M nx => (fun (j1 : En → Mem → P → Bool) => loopK (fun call e M nx k => R57_3 call e M nx fun e M nx => e.getK q3 fun v => v.onB fun c => Bool.rec (k (.x 0) e M nx) (R57_4 call e M nx fun e M nx => e.getK q4 fun v => v.onB fun c => Bool.rec (R57_5 call e M nx fun e M nx => k .n e M nx) (R57_6 call e M nx fun e M nx => k .r e M nx) c) c) call e M nx fun ex e M nx => Ex.rec (j1 e M nx) (k .r e M nx) (fun id => Bool.rec (k (.x id) e M nx) (j1 e M nx) (Nat.beq id 0)) ex) fun e M nx => j0 e M nx) fun e M nx => R57_1 call e M nx fun e M nx => k .r e M nx) [.t q5, .t q6] [q0, q1]
noncomputable def R58_0 : RegF := fun call e M nx k => e.getK q1 fun v0 => bxV 152 v0 M nx fun v1 M nx => e.setK q3 v1 fun e => k e M nx
noncomputable def R58_1 : RegF := fun call e M nx k => e.getK q0 fun v0 => e.getK q3 fun v1 => VV.onAny v0 (v_fa v1 1 fun v2 => ldV M v2 1 false fun _ v3 => callV call s57 [v0, v3] M nx fun v4 M nx => VV.onAny v4 (v_ext v4 0 fun v5 => v_ext v4 1 fun v6 => VV.onAny v5 (VV.onAny v6 (e.setK q4 v5 fun e => e.setK q5 v6 fun e => k e M nx))))
noncomputable def R58_2 : RegF := fun call e M nx k => e.getK q2 fun v0 => e.getK q0 fun v1 => e.getK q4 fun v2 => e.getK q5 fun v3 => e.getK q3 fun v4 => (fun M0 => VV.onAny v0 (VV.onAny v1 (VV.onAny v2 (VV.onAny v3 (v_nck v1 fun v5 => v_fa v5 1 fun v6 => v_ixA v6 v2 4 64 fun v7 => v_ixA v7 v3 64 1 fun v8 => ldV M v4 2 true fun _ v9 => cvV call v0 [v8, v9] M nx fun v10 M nx => Bool.rec false (k e M nx) (keptB M0 M [])))))) M
noncomputable def S58 : List (P × I) := [(s0, q0), (s1, q1), (s2, q2), (s4, q3), (s6, q4), (s7, q5)]
noncomputable def G58 : F2 := .mk (fun call e M nx k => R58_0 call e M nx fun e M nx => R58_1 call e M nx fun e M nx => R58_2 call e M nx fun e M nx => k .n e M nx) [] [q0, q1, q2]
noncomputable def R59_0 : RegF := fun call e M nx k => e.getK q1 fun v0 => bxV 152 v0 M nx fun v1 M nx => e.setK q2 v1 fun e => k e M nx
noncomputable def R59_1 : RegF := fun call e M nx k => e.getK q0 fun v0 => e.getK q2 fun v1 => (fun M0 => VV.onAny v0 (VV.onAny v0 (v_nck v0 fun v2 => ldV M v2 1 false fun _ v3 => ldV M v1 2 true fun _ v4 => bslV 152 2 1 [(.i (.ofNat 0)), (.i (.ofNat 0))] [(0, 2, v4)] M nx fun v5 M nx => appV 152 2 16 v3 v5 M nx fun v6 M nx => v_nck v0 fun v7 => Bool.rec false (stV M v7 v6 1 fun M => k e M nx) (keptB M0 M [])))) M
noncomputable def S59 : List (P × I) := [(s0, q0), (s1, q1), (s3, q2)]
noncomputable def G59 : F2 := .mk (fun call e M nx k => R59_0 call e M nx fun e M nx => R59_1 call e M nx fun e M nx => k .n e M nx) [] [q0, q1]
noncomputable def R60_0 : RegF := fun call e M nx k => e.getK q0 fun v0 => VV.onAny v0 (v_lenS v0 fun v1 => VV.onAny v1 (e.setK q1 v1 fun e => k e M nx))
noncomputable def R60_1 : RegF := fun call e M nx k => e.getK q0 fun v0 => e.getK q1 fun v1 => VV.onAny v0 (VV.onAny v1 (VV.onAny v1 (v_conv .u64 v1 fun v2 => callV call s110 [v2] M nx fun v3 M nx => callV call s109 [v0, (.i (.ofNat 0)), v1, v3] M nx fun v4 M nx => k e M nx)))
noncomputable def S60 : List (P × I) := [(s0, q0), (s2, q1)]
noncomputable def G60 : F2 := .mk (fun call e M nx k => R60_0 call e M nx fun e M nx => R60_1 call e M nx fun e M nx => k .n e M nx) [] [q0]
noncomputable def R62_0 : RegF := fun call e M nx k => e.getK q0 fun v0 => e.getK q1 fun v1 => (fun M0 => VV.onAny v0 (v_nck v0 fun v2 => v_fa v2 2 fun v3 => ldV M v3 1 false fun _ v4 => VV.onAny v1 (VV.onAny v0 (v_nck v0 fun v5 => v_fa v5 2 fun v6 => ldV M v6 1 false fun _ v7 => VV.onAny v1 (v_ixS v4 v1 21 fun v8 => v_fa v8 5 fun v9 => stV M v9 (.i (.ofNat 1)) 1 fun M => v_ixS v7 v1 21 fun v10 => v_fa v10 6 fun v11 => Bool.rec false (stV M v11 (.i (.negSucc 0)) 1 fun M => k e M nx) (keptB M0 M [])))))) M
noncomputable def S62 : List (P × I) := [(s0, q0), (s1, q1)]
noncomputable def G62 : F2 := .mk (fun call e M nx k => R62_0 call e M nx fun e M nx => k .n e M nx) [] [q0, q1]
noncomputable def R65_0 : RegF := fun call e M nx k => e.getK q0 fun v0 => e.getK q1 fun v1 => e.getK q2 fun v2 => (fun M0 => VV.onAny v0 (v_nck v0 fun v3 => v_fa v3 2 fun v4 => ldV M v4 1 false fun _ v5 => VV.onAny v1 (v_ixS v5 v1 21 fun v6 => ldV M v6 21 true fun _ v7 => VV.onAny v0 (v_nck v0 fun v8 => v_fa v8 0 fun v9 => ldV M v9 1 false fun _ v10 => VV.onAny v1 (v_ixS v10 v1 8 fun v11 => ldV M v11 8 true fun _ v12 => VV.onAny v2 (callV call s115 [v7, v12, v2] M nx fun v13 M nx => VV.onAny v13 (v_ext v13 0 fun v14 => v_ext v13 1 fun v15 => alV 109 (rep 9 (.i (.ofNat 0)) ++ [(.bool false), (.i (.ofNat 0)), (.i (.ofNat 0)), (.i (.ofNat 0)), (.str []), (.bool false), (.i (.ofNat 0)), (.i (.ofNat 0)), (.i (.ofNat 0)), (.i (.ofNat 0)), (.i (.ofNat 0)), .nils]) M nx fun v16 M nx => stV M v16 v14 21 fun M => VV.onAny v15 (Bool.rec false (e.setK q5 v16 fun e => e.setK q3 v15 fun e => k e M nx) (keptB M0 M []))))))))) M
noncomputable def R65_1 : RegF := fun call e M nx k => e.getK q3 fun v0 => VV.onAny v0 (e.setK q4 v0 fun e => k e M nx)
noncomputable def R65_2 : RegF := fun call e M nx k => e.getK q0 fun v0 => e.getK q1 fun v1 => e.getK q5 fun v2 => (fun M0 => VV.onAny v0 (v_nck v0 fun v3 => v_fa v3 2 fun v4 => ldV M v4 1 false fun _ v5 => VV.onAny v1 (ldV M v2 21 true fun _ v6 => v_ixS v5 v1 21 fun v7 => Bool.rec false (stV M v7 v6 21 fun M => k e M nx) (keptB M0 M [])))) M
noncomputable def S65 : List (P × I) := [(s0, q0), (s1, q1), (s2, q2), (s7, q3), (s27, q4), (s6, q5)]
noncomputable def G65 : F2 := .mk (fun call e M nx k => R65_0 call e M nx fun e M nx => R65_1 call e M nx fun e M nx => (fun (j0 : En → Mem → P → Bool) => e.getK q4 fun v => v.onB fun c => Bool.rec (j0 e M nx) (R65_2 call e M nx fun e M nx => j0 e M nx) c) fun e M nx => k .n e M nx) [] [q0, q1, q2]
noncomputable def R66_0 : RegF := fun call e M nx k => VV.onAny (.i (.ofNat 0)) (e.setK q7 (.i (.ofNat 0)) fun e => k e M nx)
noncomputable def R66_1 : RegF := fun call e M nx k => VV.onAny (.i (.negSucc 0)) (e.setK q7 (.i (.negSucc 0)) fun e => k e M nx)
noncomputable def R66_2 : RegF := fun call e M nx k => e.getK q0 fun v0 => VV.onAny v0 (v_lenS v0 fun v1 => VV.onAny (.i (.ofNat 0)) (e.setK q4 v1 fun e => e.setK q2 (.i (.ofNat 0)) fun e => k e M nx))
noncomputable def R66_3 : RegF := fun call e M nx k => e.getK q2 fun v0 => e.getK q4 fun v1 => v_lt v0 v1 fun v2 => e.setK q5 v2 fun e => k e M nx
noncomputable def R66_4 : RegF := fun call e M nx k => e.getK q2 fun v0 => VV.onAny v0 (VV.onAny v0 (e.setK q3 v0 fun e => k e M nx))
noncomputable def R66_5 : RegF := fun call e M nx k => e.getK q1 fun v0 => e.getK q0 fun v1 => e.getK q3 fun v2 => VV.onAny v0 (VV.onAny v1 (VV.onAny v2 (v_ixS v1 v2 21 fun v3 => ldV M v3 21 true fun _ v4 => cvV call v0 [v4] M nx fun v5 M nx => e.setK q6 v5 fun e => k e M nx)))
noncomputable def R66_6 : RegF := fun call e M nx k => e.getK q2 fun v0 => v_add v0 (.i (.ofNat 1)) fun v1 => VV.onAny v1 (e.setK q2 v1 fun e => k e M nx)
noncomputable def R66_7 : RegF := fun call e M nx k => e.getK q3 fun v0 => VV.onAny v0 (VV.onAny v0 (e.setK q7 v0 fun e => k e M nx))
noncomputable def S66 : List (P × I) := [(s0, q0), (s1, q1), (s8, q2), (s5, q3), (s7, q4), (s9, q5), (s16, q6), (s4, q7)]
noncomputable def G66 : F2 := .mk (fun call e M nx k => R66_0 call e M nx fun e M nx => (fun (j0 : En → Mem → P → Bool) => R66_2 call e M nx fun e M nx => (fun (j1 : En → Mem → P → Bool) => loopK (fun call e M nx k => R66_3 call e M nx fun e M nx => e.getK q5 fun v => v.onB fun c => Bool.rec (k (.x 0) e M nx) (R66_4 call e M nx fun e M nx => R66_5 call e M nx fun e M nx => e.getK q6 fun v => v.onB fun c => Bool.rec (R66_6 call e M nx fun e M nx => k .n e M nx) (R66_7 call e M nx fun e M nx => k .r e M nx) c) c) call e M nx fun ex e M nx => Ex.rec (j1 e M nx) (k .r e M nx) (fun id => Bool.rec (k (.x id) e M nx) (j1 e M nx) (Nat.beq id 0)) ex) fun e M nx => j0 e M nx) fun e M nx => R66_1 call e M nx fun e M nx => k .r e M nx) [.t q7] [q0, q1]
noncomputable def R67_0 : RegF := fun call e M nx k => e.getK q0 fun v0 => bxV 109 v0 M nx fun v1 M nx => VV.onAny (.bool false) (e.setK q1 v1 fun e => e.setK q2 (.bool false) fun e => k e M nx)
noncomputable def R67_1 : RegF := fun call e M nx k => e.getK q1 fun v0 => v_fa v0 9 fun v1 => ldV M v1 1 false fun _ v2 => VV.onAny v2 (e.setK q2 v2 fun e => k e M nx)
noncomputable def S67 : List (P × I) := [(s0, q0), (s1, q1), (s2, q2)]
noncomputable def G67 : F2 := .mk (fun call e M nx k => R67_0 call e M nx fun e M nx => R67_1 call e M nx fun e M nx => k .r e M nx) [.t q2] [q0]
noncomputable def R68_0 : RegF := fun call e M nx k => VV.onAny (.i (.ofNat 0)) (VV.onAny (.bool false) (e.setK q3 (.i (.ofNat 0)) fun e => e.setK q4 (.bool false) fun e => k e M nx))
noncomputable def R68_1 : RegF := fun call e M nx k => e.getK q0 fun v0 => VV.onAny v0 (v_nck v0 fun v1 => v_fa v1 18 fun v2 => v_fa v2 2 fun v3 => ldV M v3 1 false fun _ v4 => v_lt (.i (.ofNat 0)) v4 fun v5 => e.setK q1 v5 fun e => k e M nx)
noncomputable def R68_2 : RegF := fun call e M nx k => e.getK q0 fun v0 => VV.onAny v0 (v_nck v0 fun v1 => v_fa v1 8 fun v2 => ldV M v2 1 false fun _ v3 => callV call s116 [v3, (.fn s117 [] [])] M nx fun v4 M nx => VV.onAny v4 (e.setK q2 v4 fun e => k e M nx))
noncomputable def R68_3 : RegF := fun call e M nx k => e.getK q2 fun v0 => VV.onAny v0 (VV.onAny v0 (v_le (.i (.ofNat 0)) v0 fun v1 => VV.onAny v0 (VV.onAny v1 (e.setK q3 v0 fun e => e.setK q4 v1 fun e => k e M nx))))
noncomputable def R68_4 : RegF := fun call e M nx k => e.getK q0 fun v0 => VV.onAny v0 (v_nck v0 fun v1 => v_fa v1 18 fun v2 => v_fa v2 0 fun v3 => ldV M v3 1 false fun _ v4 => VV.onAny v4 (VV.onAny (.bool true) (e.setK q3 v4 fun e => e.setK q4 (.bool true) fun e => k e M nx)))
noncomputable def S68 : List (P × I) := [(s0, q0), (s10, q1), (s4, q2), (s2, q3), (s3, q4)]
noncomputable def G68 : F2 := .mk (fun call e M nx k => R68_0 call e M nx fun e M nx => R68_1 call e M nx fun e M nx => e.getK q1 fun v => v.onB fun c => Bool.rec (R68_2 call e M nx fun e M nx => R68_3 call e M nx fun e M nx => k .r e M nx) (R68_4 call e M nx fun e M nx => k .r e M nx) c) [.t q3, .t q4] [q0]
noncomputable def R69_0 : RegF := fun call e M nx k => alV 84 [(.i (.ofNat 0)), .nils, .nils, .nils, .nils] M nx fun v0 M nx => e.setK q1 v0 fun e => k e M nx
noncomputable def R69_1 : RegF := fun call e M nx k => e.getK q0 fun v0 => VV.onAny v0 (v_nqP false v0 fun v1 => e.setK q6 v1 fun e => k e M nx)
noncomputable def R69_2 : RegF := fun call e M nx k => e.getK q0 fun v0 => (fun M0 => VV.onAny v0 (v_nck v0 fun v1 => v_fa v1 1 fun v2 => ldV M v2 1 false fun bv3 v3 => VV.onAny v0 (v_nck v0 fun v4 => v_fa v4 5 fun v5 => ldV M v5 1 false fun _ v6 => callV call s35 [v6] M nx fun v7 M nx => VV.onAny v0 (v_nck v0 fun v8 => v_fa v8 9 fun v9 => ldV M v9 1 false fun bv10 v10 => callV call s119 [v10] M nx fun v11 M nx => v_bld [(.i (.ofNat 0)), .nils, .nils, .nils, .nils] [(0, 1, v3), (2, 1, v7), (4, 1, v11)] fun v12 => alV 84 [(.i (.ofNat 0)), .nils, .nils, .nils, .nils] M nx fun v13 M nx => Bool.rec false (stV M v13 v12 5 fun M => e.setK q3 v13 fun e => k e M nx) (keptB M0 M (bv10 :: (bv3 :: []))))))) M
noncomputable def R69_3 : RegF := fun call e M nx k => e.getK q3 fun v0 => e.getK q1 fun v1 => ldV M v0 5 true fun _ v2 => stV M v1 v2 5 fun M => k e M nx
noncomputable def R69_4 : RegF := fun call e M nx k => e.getK q0 fun v0 => VV.onAny v0 (v_nck v0 fun v1 => v_fa v1 8 fun v2 => ldV M v2 1 false fun _ v3 => v_lenS v3 fun v4 => VV.onAny (.i (.ofNat 0)) (e.setK q13 v3 fun e => e.setK q11 v4 fun e => e.setK q4 (.i (.ofNat 0)) fun e => k e M nx))
noncomputable def R69_5 : RegF := fun call e M nx k => e.getK q4 fun v0 => e.getK q11 fun v1 => v_lt v0 v1 fun v2 => e.setK q12 v2 fun e => k e M nx
noncomputable def R69_6 : RegF := fun call e M nx k => e.getK q13 fun v0 => e.getK q4 fun v1 => v_ixS v0 v1 1 fun v2 => ldV M v2 1 false fun _ v3 => VV.onAny v3 (e.setK q14 v3 fun e => k e M nx)
noncomputable def R69_7 : RegF := fun call e M nx k => e.getK q14 fun v0 => VV.onAny v0 (callV call s118 [v0] M nx fun v1 M nx => VV.onAny v1 (v_ext v1 0 fun v2 => v_ext v1 1 fun v3 => VV.onAny v2 (VV.onAny v3 (e.setK q15 v3 fun e => k e M nx))))
noncomputable def R69_8 : RegF := fun call e M nx k => e.getK q3 fun v0 => e.getK q15 fun v1 => v_fa v0 3 fun v2 => ldV M v2 1 false fun _ v3 => VV.onAny v1 (bslV 4 1 1 [(.bool false)] [(0, 1, v1)] M nx fun v4 M nx => appV 4 1 1 v3 v4 M nx fun v5 M nx => v_fa v0 3 fun v6 => stV M v6 v5 1 fun M => k e M nx)
noncomputable def R69_9 : RegF := fun call e M nx k => e.getK q4 fun v0 => v_add v0 (.i (.ofNat 1)) fun v1 => VV.onAny v1 (e.setK q4 v1 fun e => k e M nx)
noncomputable def R69_10 : RegF := fun call e M nx k => e.getK q0 fun v0 => VV.onAny v0 (v_nck v0 fun v1 => v_fa v1 2 fun v2 => ldV M v2 1 false fun _ v3 => v_lenS v3 fun v4 => VV.onAny (.i (.ofNat 0)) (e.setK q9 v3 fun e => e.setK q7 v4 fun e => e.setK q2 (.i (.ofNat 0)) fun e => k e M nx))
noncomputable def R69_11 : RegF := fun call e M nx k => e.getK q2 fun v0 => e.getK q7 fun v1 => v_lt v0 v1 fun v2 => e.setK q8 v2 fun e => k e M nx
noncomputable def R69_12 : RegF := fun call e M nx k => e.getK q2 fun v0 => e.getK q9 fun v1 => VV.onAny v0 (v_ixS v1 v0 21 fun v2 => ldV M v2 21 true fun _ v3 => alV 109 (rep 9 (.i (.ofNat 0)) ++ [(.bool false), (.i (.ofNat 0)), (.i (.ofNat 0)), (.i (.ofNat 0)), (.str []), (.bool false), (.i (.ofNat 0)), (.i (.ofNat 0)), (.i (.ofNat 0)), (.i (.ofNat 0)), (.i (.ofNat 0)), .nils]) M nx fun v4 M nx => VV.onAny v0 (stV M v4 v3 21 fun M => e.setK q5 v4 fun e => e.setK q10 v0 fun e => k e M nx))
noncomputable def R69_13 : RegF := fun call e M nx k => e.getK q0 fun v0 => e.getK q10 fun v1 => e.getK q5 fun v2 => VV.onAny v0 (v_nck v0 fun v3 => v_fa v3 5 fun v4 => ldV M v4 1 false fun _ v5 => VV.onAny v1 (callV call s120 [v5, v1] M nx fun v6 M nx => v_fa v2 20 fun v7 => stV M v7 v6 1 fun M => k e M nx))
noncomputable def R69_14 : RegF := fun call e M nx k => e.getK q3 fun v0 => e.getK q5 fun v1 => v_fa v0 1 fun v2 => ldV M v2 1 false fun _ v3 => ldV M v1 21 true fun _ v4 => bslV 109 21 1 (rep 9 (.i (.ofNat 0)) ++ [(.bool false), (.i (.ofNat 0)), (.i (.ofNat 0)), (.i (.ofNat 0)), (.str []), (.bool false), (.i (.ofNat 0)), (.i (.ofNat 0)), (.i (.ofNat 0)), (.i (.ofNat 0)), (.i (.ofNat 0)), .nils]) [(0, 21, v4)] M nx fun v5 M nx => appV 109 21 192 v3 v5 M nx fun v6 M nx => v_fa v0 1 fun v7 => stV M v7 v6 1 fun M => k e M nx
noncomputable def R69_15 : RegF := fun call e M nx k => e.getK q2 fun v0 => v_add v0 (.i (.ofNat 1)) fun v1 => VV.onAny v1 (e.setK q2 v1 fun e => k e M nx)
noncomputable def R69_16 : RegF := fun call e M nx k => e.getK q1 fun v0 => v_bld [(.i (.ofNat 0)), .nils, .nils, .nils, .nils] [] fun v1 => stV M v0 v1 5 fun M => k e M nx
noncomputable def S69 : List (P × I) := [(s0, q0), (s2, q1), (s33, q2), (s3, q3), (s57, q4), (s5, q5), (s11, q6), (s32, q7), (s34, q8), (s31, q9), (s4, q10), (s56, q11), (s58, q12), (s55, q13), (s7, q14), (s9, q15)]
noncomputable def G69 : F2 := .mk (fun call e M nx k => R69_0 call e M nx fun e M nx => R69_1 call e M nx fun e M nx => e.getK q6 fun v => v.onB fun c => Bool.rec (R69_2 call e M nx fun e M nx => (fun (j0 : En → Mem → P → Bool) => R69_10 call e M nx fun e M nx => (fun (j3 : En → Mem → P → Bool) => loopK (fun call e M nx k => R69_11 call e M nx fun e M nx => e.getK q8 fun v => v.onB fun c => Bool.rec (k (.x 0) e M nx) (R69_12 call e M nx fun e M nx => R69_13 call e M nx fun e M nx => R69_14 call e M nx fun e M nx => R69_15 call e M nx fun e M nx => k .n e M nx) c) call e M nx fun ex e M nx => Ex.rec (j3 e M nx) (k .r e M nx) (fun id => Bool.rec (k (.x id) e M nx) (j3 e M nx) (Nat.beq id 0)) ex) fun e M nx => j0 e M nx) fun e M nx => (fun (j1 : En → Mem → P → Bool) => R69_4 call e M nx fun e M nx => (fun (j2 : En → Mem → P → Bool) => loopK (fun call e M nx k => R69_5 call e M nx fun e M nx => e.getK q12 fun v => v.onB fun c => Bool.rec (k (.x 2) e M nx) (R69_6 call e M nx fun e M nx => R69_7 call e M nx fun e M nx => R69_8 call e M nx fun e M nx => R69_9 call e M nx fun e M nx => k .n e M nx) c) call e M nx fun ex e M nx => Ex.rec (j2 e M nx) (k .r e M nx) (fun id => Bool.rec (k (.x id) e M nx) (j2 e M nx) (Nat.beq id 2)) ex) fun e M nx => j1 e M nx) fun e M nx => R69_3 call e M nx fun e M nx => k .r e M nx) (R69_16 call e M nx fun e M nx => k .r e M nx) c) [.c q1 5 true] [q0]
noncomputable def R71_0 : RegF := fun call e M nx k => VV.onAny (.i (.ofNat 0)) (e.setK q8 (.i (.ofNat 0)) fun e => k e M nx)
noncomputable def R71_1 : RegF := fun call e M nx k => e.getK q0 fun v0 => VV.onAny v0 (callV call s122 [v0] M nx fun v1 M nx => VV.onAny v1 (v_ext v1 0 fun v2 => v_ext v1 1 fun v3 => VV.onAny v2 (VV.onAny v3 (e.setK q1 v2 fun e => e.setK q3 v3 fun e => k e M nx))))
noncomputable def R71_2 : RegF := fun call e M nx k => e.getK q3 fun v0 => VV.onAny v0 (v_not v0 fun v1 => e.setK q4 v1 fun e => k e M nx)
noncomputable def R71_3 : RegF := fun call e M nx k => e.getK q0 fun v0 => e.getK q1 fun v1 => VV.onAny v0 (VV.onAny v1 (callV call s123 [v0, v1] M nx fun v2 M nx => VV.onAny v2 (v_ext v2 0 fun v3 => v_ext v2 1 fun v4 => VV.onAny v3 (VV.onAny v4 (e.setK q2 v3 fun e => e.setK q5 v4 fun e => k e M nx)))))
noncomputable def R71_4 : RegF := fun call e M nx k => e.getK q5 fun v0 => VV.onAny v0 (e.setK q6 v0 fun e => k e M nx)
noncomputable def R71_5 : RegF := fun call e M nx k => e.getK q0 fun v0 => e.getK q1 fun v1 => VV.onAny v0 (VV.onAny v1 (callV call s125 [v0, v1] M nx fun v2 M nx => v_not v2 fun v3 => e.setK q7 v3 fun e => k e M nx))
noncomputable def R71_6 : RegF := fun call e M nx k => e.getK q0 fun v0 => e.getK q1 fun v1 => VV.onAny v0 (VV.onAny v1 (VV.onAny v0 (v_nck v0 fun v2 => v_fa v2 1 fun v3 => ldV M v3 1 false fun _ v4 => callV call s126 [v0, v1, v4] M nx fun v5 M nx => k e M nx)))
noncomputable def R71_7 : RegF := fun call e M nx k => e.getK q1 fun v0 => VV.onAny v0 (VV.onAny v0 (e.setK q8 v0 fun e => k e M nx))
noncomputable def R71_8 : RegF := fun call e M nx k => e.getK q0 fun v0 => e.getK q1 fun v1 => e.getK q2 fun v2 => VV.onAny v0 (v_nck v0 fun v3 => v_fa v3 5 fun v4 => ldV M v4 1 false fun _ v5 => VV.onAny v1 (VV.onAny v2 (callV call s124 [v5, v1, v2] M nx fun v6 M nx => k e M nx)))
noncomputable def R71_9 : RegF := fun call e M nx k => e.getK q0 fun v0 => e.getK q1 fun v1 => e.getK q2 fun v2 => (fun M0 => VV.onAny v0 (v_nck v0 fun v3 => v_fa v3 2 fun v4 => ldV M v4 1 false fun _ v5 => VV.onAny v1 (VV.onAny v0 (v_nck v0 fun v6 => v_fa v6 2 fun v7 => ldV M v7 1 false fun _ v8 => VV.onAny v1 (VV.onAny v2 (v_ixS v5 v1 21 fun v9 => v_fa v9 5 fun v10 => stV M v10 (.i (.ofNat 2)) 1 fun M => v_ixS v8 v1 21 fun v11 => v_fa v11 6 fun v12 => Bool.rec false (stV M v12 v2 1 fun M => k e M nx) (keptB M0 M []))))))) M
noncomputable def R71_10 : RegF := fun call e M nx k => VV.onAny (.i (.negSucc 0)) (e.setK q8 (.i (.negSucc 0)) fun e => k e M nx)
noncomputable def S71 : List (P × I) := [(s0, q0), (s3, q1), (s5, q2), (s4, q3), (s13, q4), (s6, q5), (s20, q6), (s46, q7), (s2, q8)]
noncomputable def G71 : F2 := .mk (fun call e M nx k => R71_0 call e M nx fun e M nx => (fun (j0 : En → Mem → P → Bool) => loopK (fun call e M nx k => (fun (j1 : En → Mem → P → Bool) => R71_1 call e M nx fun e M nx => R71_2 call e M nx fun e M nx => e.getK q4 fun v => v.onB fun c => Bool.rec (R71_3 call e M nx fun e M nx => R71_4 call e M nx fun e M nx => e.getK q6 fun v => v.onB fun c => Bool.rec (R71_5 call e M nx fun e M nx => e.getK q7 fun v => v.onB fun c => Bool.rec (R71_6 call e M nx fun e M nx => j1 e M nx) (R71_7 call e M nx fun e M nx => k .r e M nx) c) (R71_8 call e M nx fun e M nx => R71_9 call e M nx fun e M nx => j1 e M nx) c) (R71_10 call e M nx fun e M nx => k .r e M nx) c) fun e M nx => k .n e M nx) call e M nx fun ex e M nx => Ex.rec (j0 e M nx) (k .r e M nx) (fun id => Bool.rec (k (.x id) e M nx) (j0 e M nx) (Nat.beq id 0)) ex) fun e M nx => k .n e M nx) [.t q8] [q0]
noncomputable def R72_0 : RegF := fun call e M nx k => e.getK q0 fun v0 => bxV 109 v0 M nx fun v1 M nx => alV 109 (rep 9 (.i (.ofNat 0)) ++ [(.bool false), (.i (.ofNat 0)), (.i (.ofNat 0)), (.i (.ofNat 0)), (.str []), (.bool false), (.i (.ofNat 0)), (.i (.ofNat 0)), (.i (.ofNat 0)), (.i (.ofNat 0)), (.i (.ofNat 0)), .nils]) M nx fun v2 M nx => e.setK q2 v1 fun e => e.setK q3 v2 fun e => k e M nx
noncomputable def R72_1 : RegF := fun call e M nx k => e.getK q2 fun v0 => e.getK q1 fun v1 => v_fa v0 17 fun v2 => ldV M v2 1 false fun _ v3 => VV.onAny v1 (bslV 3 1 2 [(.i (.ofNat 0)), (.i (.ofNat 0))] [(0, 1, v3), (1, 1, v1)] M nx fun v4 M nx => callV call s114 [v4] M nx fun v5 M nx => v_fa v0 17 fun v6 => stV M v6 v5 1 fun M => k e M nx)
noncomputable def R72_2 : RegF := fun call e M nx k => e.getK q2 fun v0 => e.getK q3 fun v1 => ldV M v0 21 true fun _ v2 => callV call s127 [v2] M nx fun v3 M nx => stV M v1 v3 21 fun M => k e M nx
noncomputable def S72 : List (P × I) := [(s0, q0), (s1, q1), (s2, q2), (s4, q3)]
noncomputable def G72 : F2 := .mk (fun call e M nx k => R72_0 call e M nx fun e M nx => R72_1 call e M nx fun e M nx => R72_2 call e M nx fun e M nx => k .r e M nx) [.c q3 21 true] [q0, q1]
noncomputable def R73_0 : RegF := fun call e M nx k => e.getK q0 fun v0 => VV.onAny v0 (v_nqP false v0 fun v1 => e.setK q4 v1 fun e => k e M nx)
noncomputable def R73_1 : RegF := fun call e M nx k => e.getK q0 fun v0 => e.getK q1 fun v1 => VV.onAny v0 (v_nck v0 fun v2 => v_fa v2 1 fun v3 => ldV M v3 1 false fun _ v4 => VV.onAny v1 (lkuV .nils false v4 v1 M fun v5 => v_lenS v5 fun v6 => VV.onAny (.i (.ofNat 0)) (e.setK q5 v6 fun e => e.setK q3 (.i (.ofNat 0)) fun e => k e M nx)))
noncomputable def R73_2 : RegF := fun call e M nx k => e.getK q3 fun v0 => e.getK q5 fun v1 => v_lt v0 v1 fun v2 => e.setK q6 v2 fun e => k e M nx
noncomputable def R73_3 : RegF := fun call e M nx k => e.getK q3 fun v0 => VV.onAny v0 (VV.onAny v0 (e.setK q7 v0 fun e => k e M nx))
noncomputable def R73_4 : RegF := fun call e M nx k => e.getK q0 fun v0 => e.getK q1 fun v1 => e.getK q7 fun v2 => VV.onAny v0 (v_nck v0 fun v3 => v_fa v3 1 fun v4 => ldV M v4 1 false fun _ v5 => VV.onAny v1 (lkuV .nils false v5 v1 M fun v6 => VV.onAny v2 (v_ixS v6 v2 2 fun v7 => VV.onAny v7 (e.setK q8 v7 fun e => k e M nx))))
noncomputable def R73_5 : RegF := fun call e M nx k => e.getK q8 fun v0 => e.getK q2 fun v1 => VV.onAny v0 (VV.onAny v0 (v_nck v0 fun v2 => v_fa v2 1 fun v3 => ldV M v3 1 false fun _ v4 => VV.onAny v1 (bslV 3 1 2 [(.i (.ofNat 0)), (.i (.ofNat 0))] [(0, 1, v4), (1, 1, v1)] M nx fun v5 M nx => callV call s114 [v5] M nx fun v6 M nx => v_nck v0 fun v7 => v_fa v7 1 fun v8 => stV M v8 v6 1 fun M => k e M nx)))
noncomputable def R73_6 : RegF := fun call e M nx k => e.getK q3 fun v0 => v_add v0 (.i (.ofNat 1)) fun v1 => VV.onAny v1 (e.setK q3 v1 fun e => k e M nx)
noncomputable def S73 : List (P × I) := [(s0, q0), (s1, q1), (s2, q2), (s17, q3), (s9, q4), (s16, q5), (s18, q6), (s6, q7), (s7, q8)]
noncomputable def G73 : F2 := .mk (fun call e M nx k => R73_0 call e M nx fun e M nx => e.getK q4 fun v => v.onB fun c => Bool.rec (R73_1 call e M nx fun e M nx => (fun (j0 : En → Mem → P → Bool) => loopK (fun call e M nx k => R73_2 call e M nx fun e M nx => e.getK q6 fun v => v.onB fun c => Bool.rec (k (.x 0) e M nx) (R73_3 call e M nx fun e M nx => R73_4 call e M nx fun e M nx => R73_5 call e M nx fun e M nx => R73_6 call e M nx fun e M nx => k .n e M nx) c) call e M nx fun ex e M nx => Ex.rec (j0 e M nx) (k .r e M nx) (fun id => Bool.rec (k (.x id) e M nx) (j0 e M nx) (Nat.beq id 0)) ex) fun e M nx => k .n e M nx) (k .r e M nx) c) [] [q0, q1, q2]
noncomputable def R74_0 : RegF := fun call e M nx k => alV 34 [(.i (.ofNat 0)), (.i (.ofNat 0)), (.i (.ofNat 0)), (.i (.ofNat 0)), (.i (.ofNat 0)), (.i (.ofNat 0)), (.i (.ofNat 0)), (.str []), (.str [])] M nx fun v0 M nx => e.setK q2 v0 fun e => k e M nx
noncomputable def R74_1 : RegF := fun call e M nx k => e.getK q0 fun v0 => e.getK q1 fun v1 => (fun M0 => VV.onAny v0 (v_nck v0 fun v2 => v_fa v2 3 fun v3 => ldV M v3 1 false fun _ v4 => VV.onAny v1 (v_ixS v4 v1 1 fun v5 => ldV M v5 1 false fun _ v6 => VV.onAny v0 (v_nck v0 fun v7 => v_fa v7 2 fun v8 => ldV M v8 1 false fun _ v9 => VV.onAny v1 (v_ixS v9 v1 21 fun v10 => v_fa v10 7 fun v11 => ldV M v11 1 false fun _ v12 => VV.onAny v6 (VV.onAny v12 (Bool.rec false (e.setK q4 v6 fun e => e.setK q3 v12 fun e => k e M nx) (keptB M0 M [])))))))) M
noncomputable def R74_2 : RegF := fun call e M nx k => e.getK q3 fun v0 => e.getK q4 fun v1 => VV.onAny v0 (VV.onAny v1 (v_lenS v1 fun v2 => v_lt v0 v2 fun v3 => VV.onAny v3 (e.setK q5 v3 fun e => k e M nx)))
noncomputable def R74_3 : RegF := fun call e M nx k => e.getK q0 fun v0 => e.getK q1 fun v1 => VV.onAny v0 (VV.onAny v1 (callV call s128 [v0, v1] M nx fun v2 M nx => VV.onAny v2 (e.setK q6 v2 fun e => k e M nx)))
noncomputable def R74_4 : RegF := fun call e M nx k => e.getK q2 fun v0 => v_bld [(.i (.ofNat 0)), (.i (.ofNat 0)), (.i (.ofNat 0)), (.str []), (.str [])] [(0, 1, (.i (.ofNat 15)))] fun v1 => v_bld [(.i (.ofNat 0)), (.i (.ofNat 0)), (.i (.ofNat 0)), (.i (.ofNat 0)), (.i (.ofNat 0)), (.i (.ofNat 0)), (.i (.ofNat 0)), (.str []), (.str [])] [(0, 1, (.i (.ofNat 10))), (4, 5, v1)] fun v2 => stV M v0 v2 9 fun M => k e M nx
noncomputable def R74_5 : RegF := fun call e M nx k => e.getK q2 fun v0 => v_bld [(.i (.ofNat 0)), (.i (.ofNat 0)), (.i (.ofNat 0)), (.i (.ofNat 0)), (.i (.ofNat 0)), (.i (.ofNat 0)), (.i (.ofNat 0)), (.str []), (.str [])] [(0, 1, (.i (.ofNat 4)))] fun v1 => stV M v0 v1 9 fun M => k e M nx
noncomputable def R74_6 : RegF := fun call e M nx k => e.getK q4 fun v0 => e.getK q3 fun v1 => e.getK q2 fun v2 => VV.onAny v0 (VV.onAny v1 (v_ixS v0 v1 9 fun v3 => ldV M v3 9 true fun _ v4 => stV M v2 v4 9 fun M => k e M nx))
noncomputable def S74 : List (P × I) := [(s0, q0), (s1, q1), (s4, q2), (s6, q3), (s5, q4), (s22, q5), (s31, q6)]
noncomputable def G74 : F2 := .mk (fun call e M nx k => R74_0 call e M nx fun e M nx => R74_1 call e M nx fun e M nx => R74_2 call e M nx fun e M nx => e.getK q5 fun v => v.onB fun c => Bool.rec (R74_3 call e M nx fun e M nx => e.getK q6 fun v => v.onB fun c => Bool.rec (R74_4 call e M nx fun e M nx => k .r e M nx) (R74_5 call e M nx fun e M nx => k .r e M nx) c) (R74_6 call e M nx fun e M nx => k .r e M nx) c) [.c q2 9 true] [q0, q1]
noncomputable def R75_0 : RegF := fun call e M nx k => e.getK q0 fun v0 => e.getK q1 fun v1 => VV.onAny v0 (v_nck v0 fun v2 => v_fa v2 2 fun v3 => ldV M v3 1 false fun _ v4 => VV.onAny v1 (v_ixS v4 v1 21 fun v5 => v_fa v5 19 fun v6 => ldV M v6 1 false fun _ v7 => v_le (.i (.ofNat 0)) v7 fun v8 => e.setK q4 v8 fun e => k e M nx))
noncomputable def R75_1 : RegF := fun call e M nx k => e.getK q0 fun v0 => e.getK q1 fun v1 => VV.onAny v0 (VV.onAny v1 (callV call s74 [v0, v1] M nx fun v2 M nx => alV 34 [(.i (.ofNat 0)), (.i (.ofNat 0)), (.i (.ofNat 0)), (.i (.ofNat 0)), (.i (.ofNat 0)), (.i (.ofNat 0)), (.i (.ofNat 0)), (.str []), (.str [])] M nx fun v3 M nx => stV M v3 v2 9 fun M => e.setK q3 v3 fun e => k e M nx))
noncomputable def R75_2 : RegF := fun call e M nx k => VV.onAny (.nilf) (e.setK q15 (.nilf) fun e => k e M nx)
noncomputable def R75_3 : RegF := fun call e M nx k => e.getK q15 fun v0 => e.getK q1 fun v1 => e.getK q3 fun v2 => VV.onAny v0 (VV.onAny v1 (ldV M v2 9 true fun _ v3 => cvV call v0 [v1, v3] M nx fun v4 M nx => k e M nx))
noncomputable def R75_4 : RegF := fun call e M nx k => e.getK q3 fun v0 => v_fa v0 0 fun v1 => ldV M v1 1 false fun _ v2 => e.setK q2 v2 fun e => k e M nx
noncomputable def R75_5 : RegF := fun call e M nx k => e.getK q2 fun v0 => v_eq v0 (.i (.ofNat 6)) fun v1 => VV.onAny v1 (e.setK q5 v1 fun e => k e M nx)
noncomputable def R75_6 : RegF := fun call e M nx k => e.getK q2 fun v0 => v_eq v0 (.i (.ofNat 1)) fun v1 => VV.onAny v1 (e.setK q6 v1 fun e => k e M nx)
noncomputable def R75_7 : RegF := fun call e M nx k => e.getK q2 fun v0 => v_eq v0 (.i (.ofNat 5)) fun v1 => VV.onAny v1 (e.setK q7 v1 fun e => k e M nx)
noncomputable def R75_8 : RegF := fun call e M nx k => e.getK q2 fun v0 => v_eq v0 (.i (.ofNat 4)) fun v1 => VV.onAny v1 (e.setK q8 v1 fun e => k e M nx)
noncomputable def R75_9 : RegF := fun call e M nx k => e.getK q2 fun v0 => v_eq v0 (.i (.ofNat 2)) fun v1 => VV.onAny v1 (e.setK q9 v1 fun e => k e M nx)
noncomputable def R75_10 : RegF := fun call e M nx k => e.getK q2 fun v0 => v_eq v0 (.i (.ofNat 3)) fun v1 => VV.onAny v1 (e.setK q10 v1 fun e => k e M nx)
noncomputable def R75_11 : RegF := fun call e M nx k => e.getK q2 fun v0 => v_eq v0 (.i (.ofNat 7)) fun v1 => VV.onAny v1 (e.setK q11 v1 fun e => k e M nx)
noncomputable def R75_12 : RegF := fun call e M nx k => e.getK q2 fun v0 => v_eq v0 (.i (.ofNat 8)) fun v1 => VV.onAny v1 (e.setK q12 v1 fun e => k e M nx)
noncomputable def R75_13 : RegF := fun call e M nx k => e.getK q2 fun v0 => v_eq v0 (.i (.ofNat 9)) fun v1 => VV.onAny v1 (e.setK q13 v1 fun e => k e M nx)
noncomputable def R75_14 : RegF := fun call e M nx k => e.getK q2 fun v0 => v_eq v0 (.i (.ofNat 10)) fun v1 => VV.onAny v1 (e.setK q14 v1 fun e => k e M nx)
noncomputable def R75_15 : RegF := fun call e M nx k => e.getK q0 fun v0 => VV.onAny v0 (v_mkf s140 [v0] [] fun v1 => VV.onAny v1 (e.setK q15 v1 fun e => k e M nx))
noncomputable def R75_16 : RegF := fun call e M nx k => e.getK q0 fun v0 => VV.onAny v0 (v_mkf s139 [v0] [] fun v1 => VV.onAny v1 (e.setK q15 v1 fun e => k e M nx))
noncomputable def R75_17 : RegF := fun call e M nx k => e.getK q0 fun v0 => VV.onAny v0 (v_mkf s138 [v0] [] fun v1 => VV.onAny v1 (e.setK q15 v1 fun e => k e M nx))
noncomputable def R75_18 : RegF := fun call e M nx k => e.getK q0 fun v0 => VV.onAny v0 (v_mkf s137 [v0] [] fun v1 => VV.onAny v1 (e.setK q15 v1 fun e => k e M nx))
noncomputable def R75_19 : RegF := fun call e M nx k => e.getK q0 fun v0 => VV.onAny v0 (v_mkf s136 [v0] [] fun v1 => VV.onAny v1 (e.setK q15 v1 fun e => k e M nx))
noncomputable def R75_20 : RegF := fun call e M nx k => e.getK q0 fun v0 => VV.onAny v0 (v_mkf s135 [v0] [] fun v1 => VV.onAny v1 (e.setK q15 v1 fun e => k e M nx))
noncomputable def R75_21 : RegF := fun call e M nx k => e.getK q0 fun v0 => VV.onAny v0 (v_mkf s134 [v0] [] fun v1 => VV.onAny v1 (e.setK q15 v1 fun e => k e M nx))
noncomputable def R75_22 : RegF := fun call e M nx k => e.getK q0 fun v0 => VV.onAny v0 (v_mkf s133 [v0] [] fun v1 => VV.onAny v1 (e.setK q15 v1 fun e => k e M nx))
noncomputable def R75_23 : RegF := fun call e M nx k => e.getK q0 fun v0 => VV.onAny v0 (v_mkf s132 [v0] [] fun v1 => VV.onAny v1 (e.setK q15 v1 fun e => k e M nx))
noncomputable def R75_24 : RegF := fun call e M nx k => e.getK q0 fun v0 => VV.onAny v0 (v_mkf s131 [v0] [] fun v1 => VV.onAny v1 (e.setK q15 v1 fun e => k e M nx))
noncomputable def R75_25 : RegF := fun call e M nx k => e.getK q0 fun v0 => VV.onAny v0 (v_mkf s130 [v0] [] fun v1 => VV.onAny v1 (e.setK q15 v1 fun e => k e M nx))
noncomputable def R75_26 : RegF := fun call e M nx k => e.getK q0 fun v0 => e.getK q1 fun v1 => VV.onAny v0 (VV.onAny v1 (callV call s129 [v0, v1] M nx fun v2 M nx => k e M nx))
noncomputable def S75 : List (P × I) := [(s0, q0), (s1, q1), (s22, q2), (s4, q3), (s14, q4), (s25, q5), (s29, q6), (s33, q7), (s37, q8), (s41, q9), (s45, q10), (s49, q11), (s53, q12), (s57, q13), (s61, q14), (s5, q15)]
noncomputable def G75 : F2 := .mk (fun call e M nx k => R75_0 call e M nx fun e M nx => e.getK q4 fun v => v.onB fun c => Bool.rec (R75_1 call e M nx fun e M nx => R75_2 call e M nx fun e M nx => (fun (j0 : En → Mem → P → Bool) => R75_4 call e M nx fun e M nx => (fun (j1 : En → Mem → P → Bool) => R75_5 call e M nx fun e M nx => (fun (j2 : En → Mem → P → Bool) => e.getK q5 fun v => v.onB fun c => Bool.rec (R75_6 call e M nx fun e M nx => (fun (j3 : En → Mem → P → Bool) => e.getK q6 fun v => v.onB fun c => Bool.rec (R75_7 call e M nx fun e M nx => (fun (j4 : En → Mem → P → Bool) => e.getK q7 fun v => v.onB fun c => Bool.rec (R75_8 call e M nx fun e M nx => (fun (j5 : En → Mem → P → Bool) => e.getK q8 fun v => v.onB fun c => Bool.rec (R75_9 call e M nx fun e M nx => (fun (j6 : En → Mem → P → Bool) => e.getK q9 fun v => v.onB fun c => Bool.rec (R75_10 call e M nx fun e M nx => (fun (j7 : En → Mem → P → Bool) => e.getK q10 fun v => v.onB fun c => Bool.rec (R75_11 call e M nx fun e M nx => (fun (j8 : En → Mem → P → Bool) => e.getK q11 fun v => v.onB fun c => Bool.rec (R75_12 call e M nx fun e M nx => (fun (j9 : En → Mem → P → Bool) => e.getK q12 fun v => v.onB fun c => Bool.rec (R75_13 call e M nx fun e M nx => (fun (j10 : En → Mem → P → Bool) => e.getK q13 fun v => v.onB fun c => Bool.rec (R75_14 call e M nx fun e M nx => (fun (j11 : En → Mem → P → Bool) => e.getK q14 fun v => v.onB fun c => Bool.rec (R75_15 call e M nx fun e M nx => j11 e M nx) (R75_16 call e M nx fun e M nx => j11 e M nx) c) fun e M nx => j10 e M nx) (R75_17 call e M nx fun e M nx => j10 e M nx) c) fun e M nx => j9 e M nx) (R75_18 call e M nx fun e M nx => j9 e M nx) c) fun e M nx => j8 e M nx) (R75_19 call e M nx fun e M nx => j8 e M nx) c) fun e M nx => j7 e M nx) (R75_20 call e M nx fun e M nx => j7 e M nx) c) fun e M nx => j6 e M nx) (R75_21 call e M nx fun e M nx => j6 e M nx) c) fun e M nx => j5 e M nx) (R75_22 call e M nx fun e M nx => j5 e M nx) c) fun e M nx => j4 e M nx) (R75_23 call e M nx fun e M nx => j4 e M nx) c) fun e M nx => j3 e M nx) (R75_24 call e M nx fun e M nx => j3 e M nx) c) fun e M nx => j2 e M nx) (R75_25 call e M nx fun e M nx => j2 e M nx) c) fun e M nx => j1 e M nx) fun e M nx => j0 e M nx) fun e M nx => R75_3 call e M nx fun e M nx => k .n e M nx) (R75_26 call e M nx fun e M nx => k .r e M nx) c) [] [q0, q1]
noncomputable def R76_0 : RegF := fun call e M nx k => e.getK q0 fun v0 => bxV 64 v0 M nx fun v1 M nx => e.setK q2 v1 fun e => k e M nx
noncomputable def R76_1 : RegF := fun call e M nx k => e.getK q2 fun v0 => e.getK q1 fun v1 => ldV M v0 1 false fun _ v2 => v_nck v2 fun v3 => v_fa v3 2 fun v4 => ldV M v4 1 false fun _ v5 => VV.onAny v1 (v_ixS v5 v1 21 fun v6 => ldV M v6 21 true fun _ v7 => alV 109 (rep 9 (.i (.ofNat 0)) ++ [(.bool false), (.i (.ofNat 0)), (.i (.ofNat 0)), (.i (.ofNat 0)), (.str []), (.bool false), (.i (.ofNat 0)), (.i (.ofNat 0)), (.i (.ofNat 0)), (.i (.ofNat 0)), (.i (.ofNat 0)), .nils]) M nx fun v8 M nx => stV M v8 v7 21 fun M => e.setK q3 v8 fun e => k e M nx)
noncomputable def R76_2 : RegF := fun call e M nx k => e.getK q3 fun v0 => e.getK q2 fun v1 => e.getK q1 fun v2 => (fun M0 => v_fa v0 14 fun v3 => ldV M v3 1 false fun _ v4 => VV.onAny v4 (gdK v4 true .off M nx (fun j => v_fa v0 17 fun v => j v M nx) fun v5 M nx => gdK v4 true .off M nx (fun j => ldV M v5 1 false fun _ v => j v M nx) fun v6 M nx => gdK v4 true .off M nx (fun j => ldV M v1 1 false fun _ v => j v M nx) fun v7 M nx => gdK v4 true .off M nx (fun j => v_nck v7 fun v => j v M nx) fun v8 M nx => gdK v4 true .off M nx (fun j => v_fa v8 0 fun v => j v M nx) fun v9 M nx => gdK v4 true .off M nx (fun j => ldV M v9 1 false fun _ v => j v M nx) fun v10 M nx => gdK v4 true .off M nx (fun j => v_mv v2 fun v => j v M nx) fun v11 M nx => gdK v4 true .off M nx (fun j => v_ixS v10 v11 8 fun v => j v M nx) fun v12 M nx => gdK v4 true .off M nx (fun j => v_fa v12 4 fun v => j v M nx) fun v13 M nx => gdK v4 true .off M nx (fun j => ldV M v13 1 false fun _ v => j v M nx) fun v14 M nx => gdK v4 true .off M nx (fun j => v_le v14 v6 fun v => j v M nx) fun v15 M nx => v_pick v4 v15 (.bool false) fun v16 => VV.onAny v16 (gdK v16 false .off M nx (fun j => ldV M v1 1 false fun _ v => j v M nx) fun v17 M nx => gdK v16 false .off M nx (fun j => v_nck v17 fun v => j v M nx) fun v18 M nx => gdK v16 false .off M nx (fun j => v_fa v18 5 fun v => j v M nx) fun v19 M nx => gdK v16 false .off M nx (fun j => ldV M v19 1 false fun _ v => j v M nx) fun v20 M nx => gdK v16 false .off M nx (fun j => v_mv v2 fun v => j v M nx) fun v21 M nx => gdK v16 false .no M nx (fun j => callV call s120 [v20, v21] M nx fun v M nx => j v M nx) fun v22 M nx => gdK v16 false .off M nx (fun j => v_mkf s142 [] [v1] fun v => j v M nx) fun v23 M nx => gdK v16 false .no M nx (fun j => callV call s141 [v22, v23] M nx fun v M nx => j v M nx) fun v24 M nx => v_pick v16 (.bool true) v24 fun v25 => VV.onAny v25 (Bool.rec false (e.setK q4 v25 fun e => k e M nx) (keptB M0 M []))))) M
noncomputable def R76_3 : RegF := fun call e M nx k => e.getK q4 fun v0 => e.getK q3 fun v1 => VV.onAny v0 (VV.onAny v0 (gdK v0 true .off M nx (fun j => v_fa v1 9 fun v => j v M nx) fun v2 M nx => gdK v0 true .off M nx (fun j => ldV M v2 1 false fun _ v => j v M nx) fun v3 M nx => gdK v0 true .off M nx (fun j => v_not v3 fun v => j v M nx) fun v4 M nx => v_pick v0 v4 (.bool false) fun v5 => e.setK q5 v5 fun e => k e M nx))
noncomputable def R76_4 : RegF := fun call e M nx k => e.getK q2 fun v0 => e.getK q1 fun v1 => (fun M0 => ldV M v0 1 false fun _ v2 => VV.onAny v1 (ldV M v0 1 false fun _ v3 => v_nck v3 fun v4 => v_fa v4 1 fun v5 => ldV M v5 1 false fun _ v6 => v_add v6 (.i (.ofNat 1)) fun v7 => callV call s126 [v2, v1, v7] M nx fun v8 M nx => Bool.rec false (k e M nx) (keptB M0 M []))) M
noncomputable def S76 : List (P × I) := [(s0, q0), (s1, q1), (s2, q2), (s4, q3), (s5, q4), (s43, q5)]
noncomputable def G76 : F2 := .mk (fun call e M nx k => R76_0 call e M nx fun e M nx => R76_1 call e M nx fun e M nx => R76_2 call e M nx fun e M nx => R76_3 call e M nx fun e M nx => (fun (j0 : En → Mem → P → Bool) => e.getK q5 fun v => v.onB fun c => Bool.rec (j0 e M nx) (R76_4 call e M nx fun e M nx => j0 e M nx) c) fun e M nx => k .n e M nx) [] [q0, q1]
noncomputable def R77_0 : RegF := fun call e M nx k => VV.onAny (.i (.ofNat 0)) (e.setK q1 (.i (.ofNat 0)) fun e => k e M nx)
noncomputable def R77_1 : RegF := fun call e M nx k => e.getK q0 fun v0 => VV.onAny v0 (v_max v0 (.i (.ofNat 0)) fun v1 => v_min v1 (.i (.ofNat 1099511627776)) fun v2 => VV.onAny v2 (e.setK q1 v2 fun e => k e M nx))
noncomputable def S77 : List (P × I) := [(s0, q0), (s2, q1)]
noncomputable def G77 : F2 := .mk (fun call e M nx k => R77_0 call e M nx fun e M nx => R77_1 call e M nx fun e M nx => k .r e M nx) [.t q1] [q0]
noncomputable def R78_0 : RegF := fun call e M nx k => VV.onAny (.nils) (e.setK q2 (.nils) fun e => k e M nx)
noncomputable def R78_1 : RegF := fun call e M nx k => e.getK q0 fun v0 => VV.onAny v0 (v_nqS false v0 fun v1 => e.setK q1 v1 fun e => k e M nx)
noncomputable def R78_2 : RegF := fun call e M nx k => e.getK q0 fun v0 => bslV 73 3 0 [] [] M nx fun v1 M nx => VV.onAny v0 (appV 73 3 24 v1 v0 M nx fun v2 M nx => VV.onAny v2 (e.setK q2 v2 fun e => k e M nx))
noncomputable def R78_3 : RegF := fun call e M nx k => VV.onAny (.nils) (e.setK q2 (.nils) fun e => k e M nx)
noncomputable def S78 : List (P × I) := [(s0, q0), (s4, q1), (s2, q2)]
noncomputable def G78 : F2 := .mk (fun call e M nx k => R78_0 call e M nx fun e M nx => R78_1 call e M nx fun e M nx => e.getK q1 fun v => v.onB fun c => Bool.rec (R78_2 call e M nx fun e M nx => k .r e M nx) (R78_3 call e M nx fun e M nx => k .r e M nx) c) [.t q2] [q0]
noncomputable def R79_0 : RegF := fun call e M nx k => VV.onAny (.nils) (e.setK q6 (.nils) fun e => k e M nx)
noncomputable def R79_1 : RegF := fun call e M nx k => e.getK q0 fun v0 => e.getK q1 fun v1 => e.getK q2 fun v2 => e.getK q3 fun v3 => VV.onAny v0 (VV.onAny v1 (VV.onAny v2 (VV.onAny v3 (callV call s144 [v0, v1, v2, v3] M nx fun v4 M nx => VV.onAny v4 (e.setK q5 v4 fun e => k e M nx)))))
noncomputable def R79_2 : RegF := fun call e M nx k => e.getK q5 fun v0 => e.getK q6 fun v1 => VV.onAny v0 (v_le (.i (.ofNat 0)) v0 fun v2 => VV.onAny v2 (gdK v2 true .off M nx (fun j => v_mv v1 fun v => j v M nx) fun v3 M nx => gdK v2 true .off M nx (fun j => v_mv v0 fun v => j v M nx) fun v4 M nx => gdK v2 true .no M nx (fun j => callV call s89 [v3, v4] M nx fun v M nx => j v M nx) fun v5 M nx => gdK v2 true .off M nx (fun j => v_not v5 fun v => j v M nx) fun v6 M nx => v_pick v2 v6 (.bool false) fun v7 => e.setK q7 v7 fun e => k e M nx))
noncomputable def R79_3 : RegF := fun call e M nx k => e.getK q6 fun v0 => e.getK q5 fun v1 => VV.onAny v0 (VV.onAny v1 (bslV 3 1 1 [(.i (.ofNat 0))] [(0, 1, v1)] M nx fun v2 M nx => appV 3 1 8 v0 v2 M nx fun v3 M nx => VV.onAny v3 (e.setK q6 v3 fun e => k e M nx)))
noncomputable def R79_4 : RegF := fun call e M nx k => e.getK q4 fun v0 => e.getK q5 fun v1 => VV.onAny v0 (VV.onAny v1 (cvV call v0 [v1] M nx fun v2 M nx => k e M nx))
noncomputable def R79_5 : RegF := fun call e M nx k => e.getK q0 fun v0 => e.getK q1 fun v1 => e.getK q2 fun v2 => e.getK q5 fun v3 => VV.onAny v0 (VV.onAny v1 (VV.onAny v2 (VV.onAny v3 (callV call s144 [v0, v1, v2, v3] M nx fun v4 M nx => VV.onAny v4 (e.setK q5 v4 fun e => k e M nx)))))
noncomputable def S79 : List (P × I) := [(s0, q0), (s1, q1), (s2, q2), (s3, q3), (s4, q4), (s11, q5), (s10, q6), (s24, q7)]
noncomputable def G79 : F2 := .mk (fun call e M nx k => R79_0 call e M nx fun e M nx => R79_1 call e M nx fun e M nx => (fun (j0 : En → Mem → P → Bool) => loopK (fun call e M nx k => R79_2 call e M nx fun e M nx => e.getK q7 fun v => v.onB fun c => Bool.rec (k (.x 0) e M nx) (R79_3 call e M nx fun e M nx => R79_4 call e M nx fun e M nx => R79_5 call e M nx fun e M nx => k .n e M nx) c) call e M nx fun ex e M nx => Ex.rec (j0 e M nx) (k .r e M nx) (fun id => Bool.rec (k (.x id) e M nx) (j0 e M nx) (Nat.beq id 0)) ex) fun e M nx => k .n e M nx) [] [q0, q1, q2, q3, q4]
noncomputable def R80_0 : RegF := fun call e M nx k => e.getK q1 fun v0 => e.getK q0 fun v1 => e.getK q2 fun v2 => (fun M0 => ldV M v0 1 false fun bv3 v3 => VV.onAny v1 (ldV M v0 1 false fun _ v4 => VV.onAny v1 (v_ixS v4 v1 3 fun v5 => ldV M v5 3 true fun _ v6 => ldV M v2 3 true fun _ v7 => bslV 73 3 1 [(.i (.ofNat 0)), (.i (.ofNat 0)), (.i (.ofNat 0))] [(0, 3, v7)] M nx fun v8 M nx => callV call s81 [v6, v8] M nx fun v9 M nx => v_ixS v3 v1 3 fun v10 => Bool.rec false (stV M v10 v9 3 fun M => k e M nx) (keptB M0 M (bv3 :: []))))) M
noncomputable def S80 : List (P × I) := [(s0, q0), (s1, q1), (s2, q2)]
noncomputable def G80 : F2 := .mk (fun call e M nx k => R80_0 call e M nx fun e M nx => k .n e M nx) [] [q0, q1, q2]
noncomputable def R81_0 : RegF := fun call e M nx k => e.getK q0 fun v0 => bxV 73 v0 M nx fun v1 M nx => alV 73 [(.i (.ofNat 0)), (.i (.ofNat 0)), (.i (.ofNat 0))] M nx fun v2 M nx => e.setK q3 v1 fun e => e.setK q2 v2 fun e => k e M nx
noncomputable def R81_1 : RegF := fun call e M nx k => e.getK q3 fun v0 => e.getK q1 fun v1 => e.getK q2 fun v2 => ldV M v0 3 true fun _ v3 => VV.onAny v1 (callV call s145 [(.fn s146 [] []), v3, v1] M nx fun v4 M nx => stV M v2 v4 3 fun M => k e M nx)
noncomputable def S81 : List (P × I) := [(s0, q0), (s1, q1), (s4, q2), (s2, q3)]
noncomputable def G81 : F2 := .mk (fun call e M nx k => R81_0 call e M nx fun e M nx => R81_1 call e M nx fun e M nx => k .r e M nx) [.c q2 3 true] [q0, q1]
noncomputable def G82 : F2 := .spec (ownerS)
noncomputable def R83_0 : RegF := fun call e M nx k => VV.onAny (.i (.ofNat 0)) (e.setK q2 (.i (.ofNat 0)) fun e => k e M nx)
noncomputable def R83_1 : RegF := fun call e M nx k => e.getK q0 fun v0 => VV.onAny v0 (v_nqP false v0 fun v1 => e.setK q1 v1 fun e => k e M nx)
noncomputable def R83_2 : RegF := fun call e M nx k => e.getK q0 fun v0 => VV.onAny v0 (v_nck v0 fun v1 => v_fa v1 0 fun v2 => ldV M v2 1 false fun _ v3 => v_lenS v3 fun v4 => VV.onAny v4 (e.setK q2 v4 fun e => k e M nx))
noncomputable def R83_3 : RegF := fun call e M nx k => VV.onAny (.i (.ofNat 0)) (e.setK q2 (.i (.ofNat 0)) fun e => k e M nx)
noncomputable def S83 : List (P × I) := [(s0, q0), (s4, q1), (s2, q2)]
noncomputable def G83 : F2 := .mk (fun call e M nx k => R83_0 call e M nx fun e M nx => R83_1 call e M nx fun e M nx => e.getK q1 fun v => v.onB fun c => Bool.rec (R83_2 call e M nx fun e M nx => k .r e M nx) (R83_3 call e M nx fun e M nx => k .r e M nx) c) [.t q2] [q0]
noncomputable def R84_0 : RegF := fun call e M nx k => VV.onAny (.i (.ofNat 0)) (e.setK q2 (.i (.ofNat 0)) fun e => k e M nx)
noncomputable def R84_1 : RegF := fun call e M nx k => e.getK q0 fun v0 => VV.onAny v0 (v_nqP false v0 fun v1 => e.setK q1 v1 fun e => k e M nx)
noncomputable def R84_2 : RegF := fun call e M nx k => e.getK q0 fun v0 => VV.onAny v0 (v_nck v0 fun v1 => v_fa v1 1 fun v2 => ldV M v2 1 false fun _ v3 => VV.onAny v3 (e.setK q2 v3 fun e => k e M nx))
noncomputable def R84_3 : RegF := fun call e M nx k => VV.onAny (.i (.ofNat 0)) (e.setK q2 (.i (.ofNat 0)) fun e => k e M nx)
noncomputable def S84 : List (P × I) := [(s0, q0), (s4, q1), (s2, q2)]
noncomputable def G84 : F2 := .mk (fun call e M nx k => R84_0 call e M nx fun e M nx => R84_1 call e M nx fun e M nx => e.getK q1 fun v => v.onB fun c => Bool.rec (R84_2 call e M nx fun e M nx => k .r e M nx) (R84_3 call e M nx fun e M nx => k .r e M nx) c) [.t q2] [q0]
noncomputable def R85_0 : RegF := fun call e M nx k => VV.onAny (.nils) (e.setK q9 (.nils) fun e => k e M nx)
noncomputable def R85_1 : RegF := fun call e M nx k => VV.onAny (.nils) (e.setK q4 (.nils) fun e => k e M nx)
noncomputable def R85_2 : RegF := fun call e M nx k => e.getK q4 fun v0 => VV.onAny v0 (VV.onAny v0 (e.setK q9 v0 fun e => k e M nx))
noncomputable def R85_3 : RegF := fun call e M nx k => e.getK q0 fun v0 => VV.onAny v0 (v_lenS v0 fun v1 => VV.onAny (.i (.ofNat 0)) (e.setK q7 v0 fun e => e.setK q5 v1 fun e => e.setK q2 (.i (.ofNat 0)) fun e => k e M nx))
noncomputable def R85_4 : RegF := fun call e M nx k => e.getK q2 fun v0 => e.getK q5 fun v1 => v_lt v0 v1 fun v2 => e.setK q6 v2 fun e => k e M nx
noncomputable def R85_5 : RegF := fun call e M nx k => e.getK q2 fun v0 => v_add v0 (.i (.ofNat 1)) fun v1 => VV.onAny v1 (e.setK q2 v1 fun e => k e M nx)
noncomputable def R85_6 : RegF := fun call e M nx k => e.getK q7 fun v0 => e.getK q2 fun v1 => v_ixS v0 v1 3 fun v2 => ldV M v2 3 true fun _ v3 => alV 48 [(.i (.ofNat 0)), (.i (.ofNat 0)), (.i (.ofNat 0))] M nx fun v4 M nx => stV M v4 v3 3 fun M => e.setK q3 v4 fun e => k e M nx
noncomputable def R85_7 : RegF := fun call e M nx k => e.getK q1 fun v0 => e.getK q3 fun v1 => VV.onAny v0 (ldV M v1 3 true fun _ v2 => cvV call v0 [v2] M nx fun v3 M nx => e.setK q8 v3 fun e => k e M nx)
noncomputable def R85_8 : RegF := fun call e M nx k => e.getK q4 fun v0 => e.getK q3 fun v1 => VV.onAny v0 (ldV M v1 3 true fun _ v2 => bslV 48 3 1 [(.i (.ofNat 0)), (.i (.ofNat 0)), (.i (.ofNat 0))] [(0, 3, v2)] M nx fun v3 M nx => appV 48 3 24 v0 v3 M nx fun v4 M nx => VV.onAny v4 (e.setK q4 v4 fun e => k e M nx))
noncomputable def S85 : List (P × I) := [(s0, q0), (s1, q1), (s10, q2), (s7, q3), (s5, q4), (s9, q5), (s11, q6), (s8, q7), (s16, q8), (s4, q9)]
noncomputable def G85 : F2 := .mk (fun call e M nx k => R85_0 call e M nx fun e M nx => R85_1 call e M nx fun e M nx => (fun (j0 : En → Mem → P → Bool) => R85_3 call e M nx fun e M nx => (fun (j1 : En → Mem → P → Bool) => loopK (fun call e M nx k => R85_4 call e M nx fun e M nx => e.getK q6 fun v => v.onB fun c => Bool.rec (k (.x 0) e M nx) ((fun (j2 : En → Mem → P → Bool) => (fun (j3 : En → Mem → P → Bool) => R85_6 call e M nx fun e M nx => R85_7 call e M nx fun e M nx => (fun (j4 : En → Mem → P → Bool) => e.getK q8 fun v => v.onB fun c => Bool.rec (j4 e M nx) (R85_8 call e M nx fun e M nx => j4 e M nx) c) fun e M nx => j3 e M nx) fun e M nx => j2 e M nx) fun e M nx => R85_5 call e M nx fun e M nx => k .n e M nx) c) call e M nx fun ex e M nx => Ex.rec (j1 e M nx) (k .r e M nx) (fun id => Bool.rec (k (.x id) e M nx) (j1 e M nx) (Nat.beq id 0)) ex) fun e M nx => j0 e M nx) fun e M nx => R85_2 call e M nx fun e M nx => k .r e M nx) [.t q9] [q0, q1]
noncomputable def R86_0 : RegF := fun call e M nx k => e.getK q0 fun v0 => bxV 48 v0 M nx fun v1 M nx => VV.onAny (.bool false) (e.setK q2 v1 fun e => e.setK q3 (.bool false) fun e => k e M nx)
noncomputable def R86_1 : RegF := fun call e M nx k => e.getK q2 fun v0 => e.getK q1 fun v1 => v_fa v0 0 fun v2 => ldV M v2 1 false fun _ v3 => ldV M v1 1 false fun _ v4 => v_eq v3 v4 fun v5 => VV.onAny v5 (e.setK q3 v5 fun e => k e M nx)
noncomputable def S86 : List (P × I) := [(s0, q0), (s1, q1), (s2, q2), (s3, q3)]
noncomputable def G86 : F2 := .mk (fun call e M nx k => R86_0 call e M nx fun e M nx => R86_1 call e M nx fun e M nx => k .r e M nx) [.t q3] [q0, q1]
noncomputable def R87_0 : RegF := fun call e M nx k => VV.onAny (.nils) (e.setK q2 (.nils) fun e => k e M nx)
noncomputable def R87_1 : RegF := fun call e M nx k => e.getK q0 fun v0 => VV.onAny v0 (v_nqS false v0 fun v1 => e.setK q1 v1 fun e => k e M nx)
noncomputable def R87_2 : RegF := fun call e M nx k => e.getK q0 fun v0 => bslV 52 6 0 [] [] M nx fun v1 M nx => VV.onAny v0 (appV 52 6 48 v1 v0 M nx fun v2 M nx => VV.onAny v2 (e.setK q2 v2 fun e => k e M nx))
noncomputable def R87_3 : RegF := fun call e M nx k => VV.onAny (.nils) (e.setK q2 (.nils) fun e => k e M nx)
noncomputable def S87 : List (P × I) := [(s0, q0), (s4, q1), (s2, q2)]
noncomputable def G87 : F2 := .mk (fun call e M nx k => R87_0 call e M nx fun e M nx => R87_1 call e M nx fun e M nx => e.getK q1 fun v => v.onB fun c => Bool.rec (R87_2 call e M nx fun e M nx => k .r e M nx) (R87_3 call e M nx fun e M nx => k .r e M nx) c) [.t q2] [q0]
noncomputable def R88_0 : RegF := fun call e M nx k => VV.onAny (.nils) (e.setK q2 (.nils) fun e => k e M nx)
noncomputable def R88_1 : RegF := fun call e M nx k => e.getK q0 fun v0 => VV.onAny v0 (v_nqS false v0 fun v1 => e.setK q1 v1 fun e => k e M nx)
noncomputable def R88_2 : RegF := fun call e M nx k => e.getK q0 fun v0 => bslV 62 11 0 [] [] M nx fun v1 M nx => VV.onAny v0 (appV 62 11 112 v1 v0 M nx fun v2 M nx => VV.onAny v2 (e.setK q2 v2 fun e => k e M nx))
noncomputable def R88_3 : RegF := fun call e M nx k => VV.onAny (.nils) (e.setK q2 (.nils) fun e => k e M nx)
noncomputable def S88 : List (P × I) := [(s0, q0), (s4, q1), (s2, q2)]
noncomputable def G88 : F2 := .mk (fun call e M nx k => R88_0 call e M nx fun e M nx => R88_1 call e M nx fun e M nx => e.getK q1 fun v => v.onB fun c => Bool.rec (R88_2 call e M nx fun e M nx => k .r e M nx) (R88_3 call e M nx fun e M nx => k .r e M nx) c) [.t q2] [q0]
noncomputable def R89_0 : RegF := fun call e M nx k => VV.onAny (.bool false) (e.setK q2 (.bool false) fun e => k e M nx)
noncomputable def R89_1 : RegF := fun call e M nx k => e.getK q0 fun v0 => e.getK q1 fun v1 => VV.onAny v0 (VV.onAny v1 (callV call s148 [v0, v1] M nx fun v2 M nx => v_le (.i (.ofNat 0)) v2 fun v3 => VV.onAny v3 (e.setK q2 v3 fun e => k e M nx)))
noncomputable def S89 : List (P × I) := [(s0, q0), (s1, q1), (s4, q2)]
noncomputable def G89 : F2 := .mk (fun call e M nx k => R89_0 call e M nx fun e M nx => R89_1 call e M nx fun e M nx => k .r e M nx) [.t q2] [q0, q1]
noncomputable def R91_0 : RegF := fun call e M nx k => VV.onAny (.bool false) (e.setK q3 (.bool false) fun e => k e M nx)
noncomputable def R91_1 : RegF := fun call e M nx k => e.getK q0 fun v0 => e.getK q1 fun v1 => e.getK q2 fun v2 => VV.onAny v0 (VV.onAny v1 (v_le v1 v0 fun v3 => VV.onAny v3 (gdK v3 true .off M nx (fun j => v_mv v0 fun v => j v M nx) fun v4 M nx => gdK v3 true .off M nx (fun j => v_mv v2 fun v => j v M nx) fun v5 M nx => gdK v3 true .off M nx (fun j => v_le v4 v5 fun v => j v M nx) fun v6 M nx => v_pick v3 v6 (.bool false) fun v7 => VV.onAny v7 (e.setK q3 v7 fun e => k e M nx))))
noncomputable def S91 : List (P × I) := [(s0, q0), (s1, q1), (s2, q2), (s6, q3)]
noncomputable def G91 : F2 := .mk (fun call e M nx k => R91_0 call e M nx fun e M nx => R91_1 call e M nx fun e M nx => k .r e M nx) [.t q3] [q0, q1, q2]
noncomputable def R92_0 : RegF := fun call e M nx k => e.getK q0 fun v0 => e.getK q1 fun v1 => bxV 30 v0 M nx fun v2 M nx => bxV 37 v1 M nx fun v3 M nx => VV.onAny (.bool false) (e.setK q3 v2 fun e => e.setK q2 v3 fun e => e.setK q7 (.bool false) fun e => k e M nx)
noncomputable def R92_1 : RegF := fun call e M nx k => e.getK q2 fun v0 => v_fa v0 0 fun v1 => ldV M v1 1 false fun _ v2 => v_eq v2 (.i (.ofNat 2)) fun v3 => VV.onAny v3 (gdK v3 true .off M nx (fun j => v_fa v0 1 fun v => j v M nx) fun v4 M nx => gdK v3 true .off M nx (fun j => ldV M v4 1 false fun _ v => j v M nx) fun v5 M nx => gdK v3 true .no M nx (fun j => callV call s91 [v5, (.i (.ofNat 0)), (.i (.ofNat 63))] M nx fun v M nx => j v M nx) fun v6 M nx => v_pick v3 v6 (.bool false) fun v7 => VV.onAny v7 (gdK v7 false .off M nx (fun j => v_fa v0 0 fun v => j v M nx) fun v8 M nx => gdK v7 false .off M nx (fun j => ldV M v8 1 false fun _ v => j v M nx) fun v9 M nx => gdK v7 false .off M nx (fun j => v_eq v9 (.i (.ofNat 1)) fun v => j v M nx) fun v10 M nx => gdK v7 false .off M nx (fun j => v_mv v10 fun v => j v M nx) fun v11 M nx => gdK v11 true .off M nx (fun j => v_fa v0 1 fun v => j v M nx) fun v12 M nx => gdK v11 true .off M nx (fun j => ldV M v12 1 false fun _ v => j v M nx) fun v13 M nx => gdK v11 true .off M nx (fun j => v_eq v13 (.i (.ofNat 0)) fun v => j v M nx) fun v14 M nx => gdK v7 false .off M nx (fun j => v_pick v11 v14 (.bool false) fun v => j v M nx) fun v15 M nx => v_pick v7 (.bool true) v15 fun v16 => VV.onAny v16 (e.setK q4 v16 fun e => k e M nx)))
noncomputable def R92_2 : RegF := fun call e M nx k => e.getK q2 fun v0 => v_fa v0 2 fun v1 => ldV M v1 1 false fun _ v2 => callV call s91 [v2, (.i (.ofNat 1)), (.i (.ofNat 1000000))] M nx fun v3 M nx => VV.onAny v3 (gdK v3 true .off M nx (fun j => v_fa v0 3 fun v => j v M nx) fun v4 M nx => gdK v3 true .off M nx (fun j => ldV M v4 1 false fun _ v => j v M nx) fun v5 M nx => gdK v3 true .off M nx (fun j => v_fa v0 2 fun v => j v M nx) fun v6 M nx => gdK v3 true .off M nx (fun j => ldV M v6 1 false fun _ v => j v M nx) fun v7 M nx => gdK v3 true .no M nx (fun j => callV call s91 [v5, (.i (.ofNat 1)), v7] M nx fun v M nx => j v M nx) fun v8 M nx => v_pick v3 v8 (.bool false) fun v9 => VV.onAny v9 (gdK v9 true .off M nx (fun j => v_fa v0 4 fun v => j v M nx) fun v10 M nx => gdK v9 true .off M nx (fun j => ldV M v10 1 false fun _ v => j v M nx) fun v11 M nx => gdK v9 true .off M nx (fun j => v_fa v0 3 fun v => j v M nx) fun v12 M nx => gdK v9 true .off M nx (fun j => ldV M v12 1 false fun _ v => j v M nx) fun v13 M nx => gdK v9 true .no M nx (fun j => callV call s91 [v11, (.i (.ofNat 1)), v13] M nx fun v M nx => j v M nx) fun v14 M nx => v_pick v9 v14 (.bool false) fun v15 => VV.onAny v15 (e.setK q5 v15 fun e => k e M nx)))
noncomputable def R92_3 : RegF := fun call e M nx k => e.getK q2 fun v0 => e.getK q3 fun v1 => v_fa v0 6 fun v2 => ldV M v2 1 false fun _ v3 => v_lenS v3 fun v4 => v_le v4 (.i (.ofNat 6)) fun v5 => VV.onAny v5 (gdK v5 true .off M nx (fun j => v_fa v0 6 fun v => j v M nx) fun v6 M nx => gdK v5 true .off M nx (fun j => ldV M v6 1 false fun _ v => j v M nx) fun v7 M nx => gdK v5 true .off M nx (fun j => v_mkf s150 [] [v1] fun v => j v M nx) fun v8 M nx => gdK v5 true .no M nx (fun j => callV call s93 [v7, v8] M nx fun v M nx => j v M nx) fun v9 M nx => gdK v5 true .off M nx (fun j => v_not v9 fun v => j v M nx) fun v10 M nx => v_pick v5 v10 (.bool false) fun v11 => VV.onAny v11 (e.setK q6 v11 fun e => k e M nx))
noncomputable def R92_4 : RegF := fun call e M nx k => e.getK q4 fun v0 => e.getK q5 fun v1 => e.getK q6 fun v2 => e.getK q2 fun v3 => e.getK q3 fun v4 => VV.onAny v0 (VV.onAny v0 (gdK v0 true .off M nx (fun j => v_mv v1 fun v => j v M nx) fun v5 M nx => v_pick v0 v5 (.bool false) fun v6 => VV.onAny v6 (gdK v6 true .off M nx (fun j => v_mv v2 fun v => j v M nx) fun v7 M nx => v_pick v6 v7 (.bool false) fun v8 => VV.onAny v8 (gdK v8 true .off M nx (fun j => v_fa v3 5 fun v => j v M nx) fun v9 M nx => gdK v8 true .off M nx (fun j => ldV M v9 1 false fun _ v => j v M nx) fun v10 M nx => gdK v8 true .off M nx (fun j => v_fa v4 3 fun v => j v M nx) fun v11 M nx => gdK v8 true .off M nx (fun j => ldV M v11 1 false fun _ v => j v M nx) fun v12 M nx => gdK v8 true .off M nx (fun j => v_lenS v12 fun v => j v M nx) fun v13 M nx => gdK v8 true .off M nx (fun j => v_sub v13 (.i (.ofNat 1)) fun v => j v M nx) fun v14 M nx => gdK v8 true .no M nx (fun j => callV call s91 [v10, (.i (.negSucc 0)), v14] M nx fun v M nx => j v M nx) fun v15 M nx => v_pick v8 v15 (.bool false) fun v16 => VV.onAny v16 (gdK v16 true .off M nx (fun j => v_fa v3 7 fun v => j v M nx) fun v17 M nx => gdK v16 true .off M nx (fun j => ldV M v17 1 false fun _ v => j v M nx) fun v18 M nx => gdK v16 true .off M nx (fun j => v_lenS v18 fun v => j v M nx) fun v19 M nx => gdK v16 true .off M nx (fun j => v_le v19 (.i (.ofNat 40)) fun v => j v M nx) fun v20 M nx => v_pick v16 v20 (.bool false) fun v21 => VV.onAny v21 (e.setK q7 v21 fun e => k e M nx))))))
noncomputable def S92 : List (P × I) := [(s0, q0), (s1, q1), (s3, q2), (s2, q3), (s5, q4), (s6, q5), (s7, q6), (s4, q7)]
noncomputable def G92 : F2 := .mk (fun call e M nx k => R92_0 call e M nx fun e M nx => R92_1 call e M nx fun e M nx => R92_2 call e M nx fun e M nx => R92_3 call e M nx fun e M nx => R92_4 call e M nx fun e M nx => k .r e M nx) [.t q7] [q0, q1]
noncomputable def R93_0 : RegF := fun call e M nx k => VV.onAny (.bool false) (e.setK q2 (.bool false) fun e => k e M nx)
noncomputable def R93_1 : RegF := fun call e M nx k => e.getK q0 fun v0 => e.getK q1 fun v1 => VV.onAny v0 (VV.onAny v1 (callV call s151 [v0, v1] M nx fun v2 M nx => v_le (.i (.ofNat 0)) v2 fun v3 => VV.onAny v3 (e.setK q2 v3 fun e => k e M nx)))
noncomputable def S93 : List (P × I) := [(s0, q0), (s1, q1), (s4, q2)]
noncomputable def G93 : F2 := .mk (fun call e M nx k => R93_0 call e M nx fun e M nx => R93_1 call e M nx fun e M nx => k .r e M nx) [.t q2] [q0, q1]
noncomputable def R95_0 : RegF := fun call e M nx k => e.getK q1 fun v0 => bxV 73 v0 M nx fun v1 M nx => alV 109 (rep 9 (.i (.ofNat 0)) ++ [(.bool false), (.i (.ofNat 0)), (.i (.ofNat 0)), (.i (.ofNat 0)), (.str []), (.bool false), (.i (.ofNat 0)), (.i (.ofNat 0)), (.i (.ofNat 0)), (.i (.ofNat 0)), (.i (.ofNat 0)), .nils]) M nx fun v2 M nx => e.setK q4 v1 fun e => e.setK q3 v2 fun e => k e M nx
noncomputable def R95_1 : RegF := fun call e M nx k => e.getK q0 fun v0 => e.getK q4 fun v1 => e.getK q2 fun v2 => e.getK q3 fun v3 => VV.onAny v0 (ldV M v1 3 true fun _ v4 => VV.onAny v2 (v_bld (rep 9 (.i (.ofNat 0)) ++ [(.bool false), (.i (.ofNat 0)), (.i (.ofNat 0)), (.i (.ofNat 0)), (.str []), (.bool false), (.i (.ofNat 0)), (.i (.ofNat 0)), (.i (.ofNat 0)), (.i (.ofNat 0)), (.i (.ofNat 0)), .nils]) [(0, 1, v0), (1, 1, (.i (.negSucc 0))), (18, 1, (.i (.negSucc 0))), (6, 1, (.i (.negSucc 0))), (19, 1, (.i (.negSucc 0))), (2, 3, v4), (5, 1, v2)] fun v5 => stV M v3 v5 21 fun M => k e M nx))
noncomputable def S95 : List (P × I) := [(s0, q0), (s1, q1), (s2, q2), (s6, q3), (s4, q4)]
noncomputable def G95 : F2 := .mk (fun call e M nx k => R95_0 call e M nx fun e M nx => R95_1 call e M nx fun e M nx => k .r e M nx) [.c q3 21 true] [q0, q1, q2]
noncomputable def R96_0 : RegF := fun call e M nx k => e.getK q0 fun v0 => bxV 34 v0 M nx fun v1 M nx => VV.onAny (.bool false) (e.setK q1 v1 fun e => e.setK q6 (.bool false) fun e => k e M nx)
noncomputable def R96_1 : RegF := fun call e M nx k => e.getK q1 fun v0 => v_fa v0 0 fun v1 => ldV M v1 1 false fun _ v2 => callV call s152 [v2] M nx fun v3 M nx => VV.onAny v3 (e.setK q2 v3 fun e => k e M nx)
noncomputable def R96_2 : RegF := fun call e M nx k => e.getK q2 fun v0 => VV.onAny v0 (v_nqF false v0 fun v1 => e.setK q4 v1 fun e => k e M nx)
noncomputable def R96_3 : RegF := fun call e M nx k => e.getK q2 fun v0 => e.getK q1 fun v1 => VV.onAny v0 (ldV M v1 9 true fun _ v2 => cvV call v0 [v2] M nx fun v3 M nx => VV.onAny v3 (v_ext v3 0 fun v4 => v_ext v3 1 fun v5 => alV 34 [(.i (.ofNat 0)), (.i (.ofNat 0)), (.i (.ofNat 0)), (.i (.ofNat 0)), (.i (.ofNat 0)), (.i (.ofNat 0)), (.i (.ofNat 0)), (.str []), (.str [])] M nx fun v6 M nx => stV M v6 v4 9 fun M => VV.onAny v5 (e.setK q3 v6 fun e => e.setK q5 v5 fun e => k e M nx)))
noncomputable def R96_4 : RegF := fun call e M nx k => e.getK q1 fun v0 => e.getK q3 fun v1 => v_fa v0 0 fun v2 => ldV M v2 1 false fun _ v3 => v_fa v1 0 fun v4 => stV M v4 v3 1 fun M => k e M nx
noncomputable def R96_5 : RegF := fun call e M nx k => e.getK q5 fun v0 => e.getK q3 fun v1 => e.getK q1 fun v2 => VV.onAny v0 (VV.onAny v0 (gdK v0 true .off M nx (fun j => ldV M v1 9 true fun _ v => j v M nx) fun v3 M nx => gdK v0 true .off M nx (fun j => ldV M v2 9 true fun _ v => j v M nx) fun v4 M nx => gdK v0 true .off M nx (fun j => v_aeq false [(0, .i), (1, .i), (2, .i), (3, .i), (4, .i), (5, .i), (6, .i), (7, .s), (8, .s)] v3 v4 fun v => j v M nx) fun v5 M nx => v_pick v0 v5 (.bool false) fun v6 => VV.onAny v6 (e.setK q6 v6 fun e => k e M nx)))
noncomputable def R96_6 : RegF := fun call e M nx k => VV.onAny (.bool false) (e.setK q6 (.bool false) fun e => k e M nx)
noncomputable def S96 : List (P × I) := [(s0, q0), (s1, q1), (s3, q2), (s4, q3), (s10, q4), (s5, q5), (s2, q6)]
noncomputable def G96 : F2 := .mk (fun call e M nx k => R96_0 call e M nx fun e M nx => R96_1 call e M nx fun e M nx => R96_2 call e M nx fun e M nx => e.getK q4 fun v => v.onB fun c => Bool.rec (R96_3 call e M nx fun e M nx => R96_4 call e M nx fun e M nx => R96_5 call e M nx fun e M nx => k .r e M nx) (R96_6 call e M nx fun e M nx => k .r e M nx) c) [.t q6] [q0]
noncomputable def R97_0 : RegF := fun call e M nx k => VV.onAny (.bool false) (e.setK q2 (.bool false) fun e => k e M nx)
noncomputable def R97_1 : RegF := fun call e M nx k => e.getK q0 fun v0 => e.getK q1 fun v1 => VV.onAny v0 (VV.onAny v1 (callV call s153 [v0, v1] M nx fun v2 M nx => v_le (.i (.ofNat 0)) v2 fun v3 => VV.onAny v3 (e.setK q2 v3 fun e => k e M nx)))
noncomputable def S97 : List (P × I) := [(s0, q0), (s1, q1), (s4, q2)]
noncomputable def G97 : F2 := .mk (fun call e M nx k => R97_0 call e M nx fun e M nx => R97_1 call e M nx fun e M nx => k .r e M nx) [.t q2] [q0, q1]
noncomputable def R98_0 : RegF := fun call e M nx k => e.getK q0 fun v0 => bxV 24 v0 M nx fun v1 M nx => VV.onAny (.bool false) (e.setK q1 v1 fun e => e.setK q2 (.bool false) fun e => k e M nx)
noncomputable def R98_1 : RegF := fun call e M nx k => e.getK q1 fun v0 => ldV M v0 2 true fun _ v1 => callV call s99 [v1] M nx fun v2 M nx => v_not v2 fun v3 => VV.onAny v3 (e.setK q2 v3 fun e => k e M nx)
noncomputable def S98 : List (P × I) := [(s0, q0), (s1, q1), (s2, q2)]
noncomputable def G98 : F2 := .mk (fun call e M nx k => R98_0 call e M nx fun e M nx => R98_1 call e M nx fun e M nx => k .r e M nx) [.t q2] [q0]
noncomputable def R99_0 : RegF := fun call e M nx k => e.getK q0 fun v0 => bxV 24 v0 M nx fun v1 M nx => VV.onAny (.bool false) (e.setK q1 v1 fun e => e.setK q2 (.bool false) fun e => k e M nx)
noncomputable def R99_1 : RegF := fun call e M nx k => e.getK q1 fun v0 => v_fa v0 0 fun v1 => ldV M v1 1 false fun _ v2 => v_le (.i (.ofNat 1)) v2 fun v3 => VV.onAny v3 (gdK v3 true .off M nx (fun j => v_fa v0 0 fun v => j v M nx) fun v4 M nx => gdK v3 true .off M nx (fun j => ldV M v4 1 false fun _ v => j v M nx) fun v5 M nx => gdK v3 true .off M nx (fun j => v_le v5 (.i (.ofNat 100)) fun v => j v M nx) fun v6 M nx => v_pick v3 v6 (.bool false) fun v7 => VV.onAny v7 (gdK v7 true .off M nx (fun j => v_fa v0 1 fun v => j v M nx) fun v8 M nx => gdK v7 true .off M nx (fun j => ldV M v8 1 false fun _ v => j v M nx) fun v9 M nx => gdK v7 true .off M nx (fun j => v_le (.i (.ofNat 1)) v9 fun v => j v M nx) fun v10 M nx => v_pick v7 v10 (.bool false) fun v11 => VV.onAny v11 (gdK v11 true .off M nx (fun j => v_fa v0 1 fun v => j v M nx) fun v12 M nx => gdK v11 true .off M nx (fun j => ldV M v12 1 false fun _ v => j v M nx) fun v13 M nx => gdK v11 true .off M nx (fun j => v_le v13 (.i (.ofNat 1000)) fun v => j v M nx) fun v14 M nx => v_pick v11 v14 (.bool false) fun v15 => VV.onAny v15 (e.setK q2 v15 fun e => k e M nx))))
noncomputable def S99 : List (P × I) := [(s0, q0), (s1, q1), (s2, q2)]
noncomputable def G99 : F2 := .mk (fun call e M nx k => R99_0 call e M nx fun e M nx => R99_1 call e M nx fun e M nx => k .r e M nx) [.t q2] [q0]
noncomputable def R100_0 : RegF := fun call e M nx k => VV.onAny (.nils) (e.setK q2 (.nils) fun e => k e M nx)
noncomputable def R100_1 : RegF := fun call e M nx k => e.getK q0 fun v0 => VV.onAny v0 (v_nqS false v0 fun v1 => e.setK q1 v1 fun e => k e M nx)
noncomputable def R100_2 : RegF := fun call e M nx k => e.getK q0 fun v0 => bslV 24 2 0 [] [] M nx fun v1 M nx => VV.onAny v0 (appV 24 2 16 v1 v0 M nx fun v2 M nx => VV.onAny v2 (e.setK q2 v2 fun e => k e M nx))
noncomputable def R100_3 : RegF := fun call e M nx k => VV.onAny (.nils) (e.setK q2 (.nils) fun e => k e M nx)
noncomputable def S100 : List (P × I) := [(s0, q0), (s4, q1), (s2, q2)]
noncomputable def G100 : F2 := .mk (fun call e M nx k => R100_0 call e M nx fun e M nx => R100_1 call e M nx fun e M nx => e.getK q1 fun v => v.onB fun c => Bool.rec (R100_2 call e M nx fun e M nx => k .r e M nx) (R100_3 call e M nx fun e M nx => k .r e M nx) c) [.t q2] [q0]
noncomputable def R101_0 : RegF := fun call e M nx k => VV.onAny (.nil) (VV.onAny (.i (.ofNat 0)) (e.setK q2 (.nil) fun e => e.setK q3 (.i (.ofNat 0)) fun e => k e M nx))
noncomputable def R101_1 : RegF := fun call e M nx k => e.getK q0 fun v0 => VV.onAny v0 (v_lt v0 (.i (.ofNat 1)) fun v1 => VV.onAny v1 (gdK v1 false .off M nx (fun j => v_mv v0 fun v => j v M nx) fun v2 M nx => gdK v1 false .off M nx (fun j => v_lt (.i (.ofNat 64)) v2 fun v => j v M nx) fun v3 M nx => v_pick v1 (.bool true) v3 fun v4 => e.setK q1 v4 fun e => k e M nx))
noncomputable def R101_2 : RegF := fun call e M nx k => e.getK q0 fun v0 => (fun M0 => VV.onAny v0 (mksV 319 64 64 (rep 64 (.int .u8 (.ofNat 0))) v0 v0 M nx fun v1 M nx => VV.onAny v0 (mksV 3 1 8 [(.i (.ofNat 0))] v0 v0 M nx fun v2 M nx => v_bld [.nils, .nils, .nils, (.i (.ofNat 0))] [(0, 1, v1), (1, 1, v2)] fun v3 => bxV 244 v3 M nx fun v4 M nx => VV.onAny v4 (VV.onAny (.i (.ofNat 0)) (Bool.rec false (e.setK q2 v4 fun e => e.setK q3 (.i (.ofNat 0)) fun e => k e M nx) (keptB M0 M [])))))) M
noncomputable def R101_3 : RegF := fun call e M nx k => VV.onAny (.nil) (VV.onAny (.i (.ofNat 2)) (e.setK q2 (.nil) fun e => e.setK q3 (.i (.ofNat 2)) fun e => k e M nx))
noncomputable def S101 : List (P × I) := [(s0, q0), (s9, q1), (s2, q2), (s3, q3)]
noncomputable def G101 : F2 := .mk (fun call e M nx k => R101_0 call e M nx fun e M nx => R101_1 call e M nx fun e M nx => e.getK q1 fun v => v.onB fun c => Bool.rec (R101_2 call e M nx fun e M nx => k .r e M nx) (R101_3 call e M nx fun e M nx => k .r e M nx) c) [.t q2, .t q3] [q0]
noncomputable def R102_0 : RegF := fun call e M nx k => VV.onAny (.nil) (e.setK q2 (.nil) fun e => k e M nx)
noncomputable def R102_1 : RegF := fun call e M nx k => e.getK q0 fun v0 => VV.onAny v0 (callV call s154 [v0] M nx fun v1 M nx => VV.onAny v1 (e.setK q1 v1 fun e => k e M nx))
noncomputable def R102_2 : RegF := fun call e M nx k => e.getK q1 fun v0 => VV.onAny v0 (VV.onAny v0 (callV call s155 [v0] M nx fun v1 M nx => v_bld [.nil, .nil] [(0, 1, v0), (1, 1, v1)] fun v2 => bxV 250 v2 M nx fun v3 M nx => VV.onAny v3 (e.setK q2 v3 fun e => k e M nx)))
noncomputable def S102 : List (P × I) := [(s0, q0), (s3, q1), (s2, q2)]
noncomputable def G102 : F2 := .mk (fun call e M nx k => R102_0 call e M nx fun e M nx => R102_1 call e M nx fun e M nx => R102_2 call e M nx fun e M nx => k .r e M nx) [.t q2] [q0]
noncomputable def R103_0 : RegF := fun call e M nx k => VV.onAny (.nil) (e.setK q2 (.nil) fun e => k e M nx)
noncomputable def R103_1 : RegF := fun call e M nx k => e.getK q0 fun v0 => e.getK q1 fun v1 => VV.onAny v0 (VV.onAny v1 (mkmV M nx fun v2 M nx => v_bld [.nil, .nil, .nilm] [(0, 1, v0), (1, 1, v1), (2, 1, v2)] fun v3 => bxV 253 v3 M nx fun v4 M nx => VV.onAny v4 (e.setK q2 v4 fun e => k e M nx)))
noncomputable def S103 : List (P × I) := [(s0, q0), (s1, q1), (s4, q2)]
noncomputable def G103 : F2 := .mk (fun call e M nx k => R103_0 call e M nx fun e M nx => R103_1 call e M nx fun e M nx => k .r e M nx) [.t q2] [q0, q1]
noncomputable def R104_0 : RegF := fun call e M nx k => VV.onAny (.nil) (e.setK q1 (.nil) fun e => k e M nx)
noncomputable def R104_1 : RegF := fun call e M nx k => e.getK q0 fun v0 => VV.onAny v0 (v_bld [.nil, .nil, .nil, .nil, .nil] [(0, 1, v0)] fun v1 => bxV 257 v1 M nx fun v2 M nx => VV.onAny v2 (e.setK q1 v2 fun e => k e M nx))
noncomputable def S104 : List (P × I) := [(s0, q0), (s2, q1)]
noncomputable def G104 : F2 := .mk (fun call e M nx k => R104_0 call e M nx fun e M nx => R104_1 call e M nx fun e M nx => k .r e M nx) [.t q1] [q0]
noncomputable def R105_0 : RegF := fun call e M nx k => VV.onAny (.nil) (e.setK q1 (.nil) fun e => k e M nx)
noncomputable def R105_1 : RegF := fun call e M nx k => e.getK q0 fun v0 => VV.onAny v0 (v_mkf s156 [v0] [] fun v1 => VV.onAny v0 (v_mkf s157 [v0] [] fun v2 => mkmV M nx fun v3 M nx => v_bld [.nilf, .nilf, .nilm] [(0, 1, v1), (1, 1, v2), (2, 1, v3)] fun v4 => bxV 261 v4 M nx fun v5 M nx => VV.onAny v5 (e.setK q1 v5 fun e => k e M nx)))
noncomputable def S105 : List (P × I) := [(s0, q0), (s2, q1)]
noncomputable def G105 : F2 := .mk (fun call e M nx k => R105_0 call e M nx fun e M nx => R105_1 call e M nx fun e M nx => k .r e M nx) [.t q1] [q0]
noncomputable def R106_0 : RegF := fun call e M nx k => VV.onAny (.nil) (e.setK q0 (.nil) fun e => k e M nx)
noncomputable def R106_1 : RegF := fun call e M nx k => mkmV M nx fun v0 M nx => v_bld [.nilm] [(0, 1, v0)] fun v1 => bxV 264 v1 M nx fun v2 M nx => VV.onAny v2 (e.setK q0 v2 fun e => k e M nx)
noncomputable def S106 : List (P × I) := [(s0, q0)]
noncomputable def G106 : F2 := .mk (fun call e M nx k => R106_0 call e M nx fun e M nx => R106_1 call e M nx fun e M nx => k .r e M nx) [.t q0] []
noncomputable def R107_0 : RegF := fun call e M nx k => VV.onAny (.i (.ofNat 0)) (e.setK q8 (.i (.ofNat 0)) fun e => k e M nx)
noncomputable def R107_1 : RegF := fun call e M nx k => e.getK q0 fun v0 => VV.onAny v0 (v_nqP false v0 fun v1 => e.setK q3 v1 fun e => k e M nx)
noncomputable def R107_2 : RegF := fun call e M nx k => e.getK q0 fun v0 => e.getK q1 fun v1 => VV.onAny v0 (v_nck v0 fun v2 => v_fa v2 0 fun v3 => ldV M v3 1 false fun _ v4 => VV.onAny v1 (lkuV (.agg [(.i (.ofNat 0)), (.i (.ofNat 0)), (.bool false)]) true v4 v1 M fun v5 => VV.onAny v5 (v_ext v5 0 fun v6 => v_ext v5 1 fun v7 => alV 266 [(.i (.ofNat 0)), (.i (.ofNat 0)), (.bool false)] M nx fun v8 M nx => stV M v8 v6 3 fun M => VV.onAny v7 (e.setK q5 v7 fun e => k e M nx))))
noncomputable def R107_3 : RegF := fun call e M nx k => e.getK q1 fun v0 => VV.onAny v0 (v_lt v0 (.i (.ofNat 0)) fun v1 => VV.onAny v1 (e.setK q4 v1 fun e => k e M nx))
noncomputable def R107_4 : RegF := fun call e M nx k => e.getK q5 fun v0 => VV.onAny v0 (VV.onAny v0 (e.setK q6 v0 fun e => k e M nx))
noncomputable def R107_5 : RegF := fun call e M nx k => e.getK q2 fun v0 => e.getK q0 fun v1 => VV.onAny v0 (v_ne v0 (.i (.negSucc 0)) fun v2 => VV.onAny v2 (gdK v2 true .off M nx (fun j => v_mv v1 fun v => j v M nx) fun v3 M nx => gdK v2 true .off M nx (fun j => v_mv v0 fun v => j v M nx) fun v4 M nx => gdK v2 true .no M nx (fun j => callV call s158 [v3, v4] M nx fun v M nx => j v M nx) fun v5 M nx => gdK v2 true .off M nx (fun j => v_not v5 fun v => j v M nx) fun v6 M nx => v_pick v2 v6 (.bool false) fun v7 => VV.onAny v7 (e.setK q7 v7 fun e => k e M nx)))
noncomputable def R107_6 : RegF := fun call e M nx k => e.getK q0 fun v0 => e.getK q1 fun v1 => e.getK q2 fun v2 => VV.onAny v0 (v_nck v0 fun v3 => v_fa v3 0 fun v4 => ldV M v4 1 false fun _ v5 => VV.onAny v1 (VV.onAny v2 (v_bld [(.i (.ofNat 0)), (.i (.ofNat 0)), (.bool false)] [(0, 1, v2)] fun v6 => mupV v5 v1 v6 M fun M => k e M nx)))
noncomputable def R107_7 : RegF := fun call e M nx k => VV.onAny (.i (.ofNat 0)) (e.setK q8 (.i (.ofNat 0)) fun e => k e M nx)
noncomputable def R107_8 : RegF := fun call e M nx k => VV.onAny (.i (.ofNat 4)) (e.setK q8 (.i (.ofNat 4)) fun e => k e M nx)
noncomputable def R107_9 : RegF := fun call e M nx k => VV.onAny (.i (.ofNat 5)) (e.setK q8 (.i (.ofNat 5)) fun e => k e M nx)
noncomputable def R107_10 : RegF := fun call e M nx k => VV.onAny (.i (.ofNat 2)) (e.setK q8 (.i (.ofNat 2)) fun e => k e M nx)
noncomputable def R107_11 : RegF := fun call e M nx k => VV.onAny (.i (.ofNat 1)) (e.setK q8 (.i (.ofNat 1)) fun e => k e M nx)
noncomputable def S107 : List (P × I) := [(s0, q0), (s1, q1), (s2, q2), (s10, q3), (s20, q4), (s8, q5), (s23, q6), (s25, q7), (s6, q8)]
noncomputable def G107 : F2 := .mk (fun call e M nx k => R107_0 call e M nx fun e M nx => R107_1 call e M nx fun e M nx => e.getK q3 fun v => v.onB fun c => Bool.rec (R107_2 call e M nx fun e M nx => R107_3 call e M nx fun e M nx => e.getK q4 fun v => v.onB fun c => Bool.rec (R107_4 call e M nx fun e M nx => e.getK q6 fun v => v.onB fun c => Bool.rec (R107_5 call e M nx fun e M nx => e.getK q7 fun v => v.onB fun c => Bool.rec (R107_6 call e M nx fun e M nx => R107_7 call e M nx fun e M nx => k .r e M nx) (R107_8 call e M nx fun e M nx => k .r e M nx) c) (R107_9 call e M nx fun e M nx => k .r e M nx) c) (R107_10 call e M nx fun e M nx => k .r e M nx) c) (R107_11 call e M nx fun e M nx => k .r e M nx) c) [.t q8] [q0, q1, q2]
noncomputable def R108_0 : RegF := fun call e M nx k => VV.onAny (.i (.ofNat 0)) (e.setK q5 (.i (.ofNat 0)) fun e => k e M nx)
noncomputable def R108_1 : RegF := fun call e M nx k => e.getK q0 fun v0 => VV.onAny v0 (v_nqP false v0 fun v1 => VV.onAny v1 (e.setK q2 v1 fun e => k e M nx))
noncomputable def R108_2 : RegF := fun call e M nx k => e.getK q1 fun v0 => VV.onAny v0 (v_lt v0 (.i (.ofNat 0)) fun v1 => VV.onAny v1 (e.setK q3 v1 fun e => k e M nx))
noncomputable def R108_3 : RegF := fun call e M nx k => e.getK q0 fun v0 => e.getK q1 fun v1 => VV.onAny v0 (v_nck v0 fun v2 => v_fa v2 2 fun v3 => ldV M v3 1 false fun _ v4 => VV.onAny v1 (lkuV .nil false v4 v1 M fun v5 => v_nqP true v5 fun v6 => VV.onAny v6 (e.setK q4 v6 fun e => k e M nx)))
noncomputable def R108_4 : RegF := fun call e M nx k => e.getK q0 fun v0 => e.getK q1 fun v1 => VV.onAny v0 (v_nck v0 fun v2 => v_fa v2 2 fun v3 => ldV M v3 1 false fun _ v4 => VV.onAny v1 (v_bld [.nil, .nil, .nil, .nil, .nil, .nil, .nil, .nil] [] fun v5 => bxV 271 v5 M nx fun v6 M nx => mupV v4 v1 v6 M fun M => k e M nx))
noncomputable def R108_5 : RegF := fun call e M nx k => VV.onAny (.i (.ofNat 0)) (e.setK q5 (.i (.ofNat 0)) fun e => k e M nx)
noncomputable def R108_6 : RegF := fun call e M nx k => VV.onAny (.i (.ofNat 5)) (e.setK q5 (.i (.ofNat 5)) fun e => k e M nx)
noncomputable def R108_7 : RegF := fun call e M nx k => VV.onAny (.i (.ofNat 2)) (e.setK q5 (.i (.ofNat 2)) fun e => k e M nx)
noncomputable def R108_8 : RegF := fun call e M nx k => VV.onAny (.i (.ofNat 1)) (e.setK q5 (.i (.ofNat 1)) fun e => k e M nx)
noncomputable def S108 : List (P × I) := [(s0, q0), (s1, q1), (s5, q2), (s8, q3), (s11, q4), (s4, q5)]
noncomputable def G108 : F2 := .mk (fun call e M nx k => R108_0 call e M nx fun e M nx => R108_1 call e M nx fun e M nx => e.getK q2 fun v => v.onB fun c => Bool.rec (R108_2 call e M nx fun e M nx => e.getK q3 fun v => v.onB fun c => Bool.rec (R108_3 call e M nx fun e M nx => e.getK q4 fun v => v.onB fun c => Bool.rec (R108_4 call e M nx fun e M nx => R108_5 call e M nx fun e M nx => k .r e M nx) (R108_6 call e M nx fun e M nx => k .r e M nx) c) (R108_7 call e M nx fun e M nx => k .r e M nx) c) (R108_8 call e M nx fun e M nx => k .r e M nx) c) [.t q5] [q0, q1]
noncomputable def R109_0 : RegF := fun call e M nx k => VV.onAny (.bool true) (e.setK q7 (.bool true) fun e => k e M nx)
noncomputable def R109_1 : RegF := fun call e M nx k => VV.onAny (.bool true) (e.setK q16 (.bool true) fun e => k e M nx)
noncomputable def R109_2 : RegF := fun call e M nx k => e.getK q2 fun v0 => e.getK q1 fun v1 => VV.onAny v0 (VV.onAny v1 (v_sub v0 v1 fun v2 => VV.onAny v2 (e.setK q6 v2 fun e => k e M nx)))
noncomputable def R109_3 : RegF := fun call e M nx k => e.getK q6 fun v0 => VV.onAny v0 (v_le v0 (.i (.ofNat 12)) fun v1 => e.setK q12 v1 fun e => k e M nx)
noncomputable def R109_4 : RegF := fun call e M nx k => e.getK q0 fun v0 => e.getK q1 fun v1 => e.getK q2 fun v2 => VV.onAny v0 (VV.onAny v1 (VV.onAny v2 (callV call s159 [v0, v1, v2] M nx fun v3 M nx => k e M nx)))
noncomputable def R109_5 : RegF := fun call e M nx k => e.getK q3 fun v0 => VV.onAny v0 (v_eq v0 (.i (.ofNat 0)) fun v1 => e.setK q13 v1 fun e => k e M nx)
noncomputable def R109_6 : RegF := fun call e M nx k => e.getK q0 fun v0 => e.getK q1 fun v1 => e.getK q2 fun v2 => VV.onAny v0 (VV.onAny v1 (VV.onAny v2 (callV call s160 [v0, v1, v2] M nx fun v3 M nx => k e M nx)))
noncomputable def R109_7 : RegF := fun call e M nx k => e.getK q7 fun v0 => VV.onAny v0 (v_not v0 fun v1 => e.setK q14 v1 fun e => k e M nx)
noncomputable def R109_8 : RegF := fun call e M nx k => e.getK q0 fun v0 => e.getK q1 fun v1 => e.getK q2 fun v2 => VV.onAny v0 (VV.onAny v1 (VV.onAny v2 (callV call s161 [v0, v1, v2] M nx fun v3 M nx => k e M nx)))
noncomputable def R109_9 : RegF := fun call e M nx k => e.getK q3 fun v0 => VV.onAny v0 (v_sub v0 (.i (.ofNat 1)) fun v1 => VV.onAny v1 (e.setK q3 v1 fun e => k e M nx))
noncomputable def R109_10 : RegF := fun call e M nx k => e.getK q0 fun v0 => e.getK q1 fun v1 => e.getK q2 fun v2 => VV.onAny v0 (VV.onAny v1 (VV.onAny v2 (callV call s162 [v0, v1, v2] M nx fun v3 M nx => VV.onAny v3 (v_ext v3 0 fun v4 => v_ext v3 1 fun v5 => VV.onAny v4 (VV.onAny v5 (e.setK q5 v4 fun e => e.setK q8 v5 fun e => k e M nx))))))
noncomputable def R109_11 : RegF := fun call e M nx k => e.getK q8 fun v0 => VV.onAny v0 (v_eq v0 (.i (.ofNat 2)) fun v1 => e.setK q15 v1 fun e => k e M nx)
noncomputable def R109_12 : RegF := fun call e M nx k => e.getK q0 fun v0 => e.getK q1 fun v1 => e.getK q2 fun v2 => VV.onAny v0 (VV.onAny v1 (VV.onAny v2 (callV call s163 [v0, v1, v2] M nx fun v3 M nx => k e M nx)))
noncomputable def R109_13 : RegF := fun call e M nx k => e.getK q2 fun v0 => e.getK q5 fun v1 => e.getK q1 fun v2 => VV.onAny v0 (v_sub v0 (.i (.ofNat 1)) fun v3 => VV.onAny v1 (VV.onAny v2 (v_sub v1 v2 fun v4 => v_sub v3 v4 fun v5 => VV.onAny v5 (e.setK q5 v5 fun e => k e M nx))))
noncomputable def R109_14 : RegF := fun call e M nx k => VV.onAny (.i (.ofNat 1)) (e.setK q8 (.i (.ofNat 1)) fun e => k e M nx)
noncomputable def R109_15 : RegF := fun call e M nx k => e.getK q7 fun v0 => e.getK q16 fun v1 => e.getK q8 fun v2 => VV.onAny v0 (VV.onAny v0 (gdK v0 true .off M nx (fun j => v_mv v1 fun v => j v M nx) fun v3 M nx => v_pick v0 v3 (.bool false) fun v4 => VV.onAny v4 (gdK v4 true .off M nx (fun j => v_mv v2 fun v => j v M nx) fun v5 M nx => gdK v4 true .off M nx (fun j => v_eq v5 (.i (.ofNat 1)) fun v => j v M nx) fun v6 M nx => v_pick v4 v6 (.bool false) fun v7 => e.setK q17 v7 fun e => k e M nx)))
noncomputable def R109_16 : RegF := fun call e M nx k => e.getK q0 fun v0 => e.getK q1 fun v1 => e.getK q2 fun v2 => VV.onAny v0 (VV.onAny v1 (VV.onAny v2 (callV call s164 [v0, v1, v2] M nx fun v3 M nx => e.setK q18 v3 fun e => k e M nx)))
noncomputable def R109_17 : RegF := fun call e M nx k => e.getK q1 fun v0 => e.getK q0 fun v1 => e.getK q5 fun v2 => (fun M0 => VV.onAny v0 (v_lt (.i (.ofNat 0)) v0 fun v3 => VV.onAny v3 (gdK v3 true .off M nx (fun j => v_mv v1 fun v => j v M nx) fun v4 M nx => gdK v3 true .off M nx (fun j => v_mv v0 fun v => j v M nx) fun v5 M nx => gdK v3 true .off M nx (fun j => v_sub v5 (.i (.ofNat 1)) fun v => j v M nx) fun v6 M nx => gdK v3 true .off M nx (fun j => v_ixS v4 v6 1 fun v => j v M nx) fun v7 M nx => gdK v3 true .off M nx (fun j => ldV M v7 1 false fun _ v => j v M nx) fun v8 M nx => gdK v3 true .off M nx (fun j => v_mv v1 fun v => j v M nx) fun v9 M nx => gdK v3 true .off M nx (fun j => v_mv v2 fun v => j v M nx) fun v10 M nx => gdK v3 true .off M nx (fun j => v_ixS v9 v10 1 fun v => j v M nx) fun v11 M nx => gdK v3 true .off M nx (fun j => ldV M v11 1 false fun _ v => j v M nx) fun v12 M nx => gdK v3 true .no M nx (fun j => callV call s165 [v8, v12] M nx fun v M nx => j v M nx) fun v13 M nx => gdK v3 true .off M nx (fun j => v_not v13 fun v => j v M nx) fun v14 M nx => v_pick v3 v14 (.bool false) fun v15 => Bool.rec false (e.setK q19 v15 fun e => k e M nx) (keptB M0 M [])))) M
noncomputable def R109_18 : RegF := fun call e M nx k => e.getK q0 fun v0 => e.getK q1 fun v1 => e.getK q2 fun v2 => e.getK q5 fun v3 => VV.onAny v0 (VV.onAny v1 (VV.onAny v2 (VV.onAny v3 (callV call s166 [v0, v1, v2, v3] M nx fun v4 M nx => VV.onAny v4 (e.setK q20 v4 fun e => k e M nx)))))
noncomputable def R109_19 : RegF := fun call e M nx k => e.getK q20 fun v0 => VV.onAny v0 (VV.onAny v0 (e.setK q1 v0 fun e => k e M nx))
noncomputable def R109_20 : RegF := fun call e M nx k => e.getK q0 fun v0 => e.getK q1 fun v1 => e.getK q2 fun v2 => e.getK q5 fun v3 => VV.onAny v0 (VV.onAny v1 (VV.onAny v2 (VV.onAny v3 (callV call s167 [v0, v1, v2, v3] M nx fun v4 M nx => VV.onAny v4 (v_ext v4 0 fun v5 => v_ext v4 1 fun v6 => VV.onAny v5 (VV.onAny v6 (e.setK q4 v5 fun e => e.setK q21 v6 fun e => k e M nx)))))))
noncomputable def R109_21 : RegF := fun call e M nx k => e.getK q21 fun v0 => VV.onAny v0 (VV.onAny v0 (e.setK q16 v0 fun e => k e M nx))
noncomputable def R109_22 : RegF := fun call e M nx k => e.getK q4 fun v0 => e.getK q1 fun v1 => e.getK q2 fun v2 => VV.onAny v0 (VV.onAny v1 (v_sub v0 v1 fun v3 => VV.onAny v2 (VV.onAny v0 (v_sub v2 v0 fun v4 => VV.onAny v3 (VV.onAny v4 (e.setK q9 v3 fun e => e.setK q10 v4 fun e => k e M nx))))))
noncomputable def R109_23 : RegF := fun call e M nx k => e.getK q6 fun v0 => VV.onAny v0 (v_quo v0 (.i (.ofNat 8)) fun v1 => VV.onAny v1 (e.setK q11 v1 fun e => k e M nx))
noncomputable def R109_24 : RegF := fun call e M nx k => e.getK q9 fun v0 => e.getK q10 fun v1 => VV.onAny v0 (VV.onAny v1 (v_lt v0 v1 fun v2 => e.setK q22 v2 fun e => k e M nx))
noncomputable def R109_25 : RegF := fun call e M nx k => e.getK q9 fun v0 => e.getK q11 fun v1 => VV.onAny v0 (VV.onAny v1 (v_le v1 v0 fun v2 => VV.onAny v2 (e.setK q7 v2 fun e => k e M nx)))
noncomputable def R109_26 : RegF := fun call e M nx k => e.getK q0 fun v0 => e.getK q1 fun v1 => e.getK q4 fun v2 => e.getK q3 fun v3 => VV.onAny v0 (VV.onAny v1 (VV.onAny v2 (VV.onAny v3 (callV call s109 [v0, v1, v2, v3] M nx fun v4 M nx => k e M nx))))
noncomputable def R109_27 : RegF := fun call e M nx k => e.getK q4 fun v0 => VV.onAny v0 (v_add v0 (.i (.ofNat 1)) fun v1 => VV.onAny v1 (e.setK q1 v1 fun e => k e M nx))
noncomputable def R109_28 : RegF := fun call e M nx k => e.getK q10 fun v0 => e.getK q11 fun v1 => VV.onAny v0 (VV.onAny v1 (v_le v1 v0 fun v2 => VV.onAny v2 (e.setK q7 v2 fun e => k e M nx)))
noncomputable def R109_29 : RegF := fun call e M nx k => e.getK q0 fun v0 => e.getK q4 fun v1 => e.getK q2 fun v2 => e.getK q3 fun v3 => VV.onAny v0 (VV.onAny v1 (v_add v1 (.i (.ofNat 1)) fun v4 => VV.onAny v2 (VV.onAny v3 (callV call s109 [v0, v4, v2, v3] M nx fun v5 M nx => k e M nx))))
noncomputable def R109_30 : RegF := fun call e M nx k => e.getK q4 fun v0 => VV.onAny v0 (VV.onAny v0 (e.setK q2 v0 fun e => k e M nx))
noncomputable def S109 : List (P × I) := [(s0, q0), (s1, q1), (s2, q2), (s3, q3), (s14, q4), (s11, q5), (s10, q6), (s8, q7), (s12, q8), (s16, q9), (s17, q10), (s18, q11), (s23, q12), (s29, q13), (s35, q14), (s50, q15), (s9, q16), (s68, q17), (s72, q18), (s87, q19), (s13, q20), (s15, q21), (s113, q22)]
noncomputable def G109 : F2 := .mk ((c_seq (c_fn R109_0) (c_seq (c_fn R109_1) (c_blk 0 (loopK (c_blk 1 (c_seq (c_fn R109_2) (c_seq (c_seq (c_fn R109_3) (c_cond (.t q12) (c_seq (c_fn R109_4) c_ret) c_skip)) (c_seq (c_seq (c_fn R109_5) (c_cond (.t q13) (c_seq (c_fn R109_6) c_ret) c_skip)) (c_seq (c_seq (c_fn R109_7) (c_cond (.t q14) (c_seq (c_fn R109_8) (c_fn R109_9)) c_skip)) (c_seq (c_fn R109_10) (c_seq (c_seq (c_fn R109_11) (c_cond (.t q15) (c_seq (c_fn R109_12) (c_seq (c_fn R109_13) (c_fn R109_14))) c_skip)) (c_seq (c_seq (c_fn R109_15) (c_cond (.t q17) (c_seq (c_fn R109_16) (c_cond (.t q18) c_ret c_skip)) c_skip)) (c_seq (c_seq (c_fn R109_17) (c_cond (.t q19) (c_seq (c_fn R109_18) (c_seq (c_fn R109_19) (c_exit 1))) c_skip)) (c_seq (c_fn R109_20) (c_seq (c_fn R109_21) (c_seq (c_fn R109_22) (c_seq (c_fn R109_23) (c_seq (c_fn R109_24) (c_cond (.t q22) (c_seq (c_fn R109_25) (c_seq (c_fn R109_26) (c_fn R109_27))) (c_seq (c_fn R109_28) (c_seq (c_fn R109_29) (c_fn R109_30))))))))))))))))))))))) [] [q0, q1, q2, q3]
noncomputable def R110_0 : RegF := fun call e M nx k => VV.onAny (.i (.ofNat 0)) (e.setK q1 (.i (.ofNat 0)) fun e => k e M nx)
noncomputable def R110_1 : RegF := fun call e M nx k => e.getK q0 fun v0 => VV.onAny v0 (callV call s169 [v0] M nx fun v1 M nx => VV.onAny v1 (e.setK q1 v1 fun e => k e M nx))
noncomputable def R110_2 : RegF := fun call e M nx k => e.getK q0 fun v0 => VV.onAny v0 (v_conv .u32 v0 fun v1 => callV call s168 [v1] M nx fun v2 M nx => VV.onAny v2 (e.setK q1 v2 fun e => k e M nx))
noncomputable def S110 : List (P × I) := [(s0, q0), (s2, q1)]
noncomputable def G110 : F2 := .mk (fun call e M nx k => R110_0 call e M nx fun e M nx => VV.onB (.bool false) fun c => Bool.rec (R110_1 call e M nx fun e M nx => k .r e M nx) (R110_2 call e M nx fun e M nx => k .r e M nx) c) [.t q1] [q0]
noncomputable def R114_0 : RegF := fun call e M nx k => VV.onAny (.i (.ofNat 0)) (e.setK q7 (.i (.ofNat 0)) fun e => k e M nx)
noncomputable def R114_1 : RegF := fun call e M nx k => VV.onAny (.i (.ofNat 0)) (e.setK q2 (.i (.ofNat 0)) fun e => k e M nx)
noncomputable def R114_2 : RegF := fun call e M nx k => e.getK q2 fun v0 => VV.onAny v0 (VV.onAny v0 (e.setK q7 v0 fun e => k e M nx))
noncomputable def R114_3 : RegF := fun call e M nx k => e.getK q0 fun v0 => VV.onAny v0 (v_lenS v0 fun v1 => VV.onAny (.i (.ofNat 0)) (e.setK q5 v0 fun e => e.setK q3 v1 fun e => e.setK q1 (.i (.ofNat 0)) fun e => k e M nx))
noncomputable def R114_4 : RegF := fun call e M nx k => e.getK q1 fun v0 => e.getK q3 fun v1 => v_lt v0 v1 fun v2 => e.setK q4 v2 fun e => k e M nx
noncomputable def R114_5 : RegF := fun call e M nx k => e.getK q5 fun v0 => e.getK q1 fun v1 => v_ixS v0 v1 1 fun v2 => ldV M v2 1 false fun _ v3 => VV.onAny v3 (e.setK q6 v3 fun e => k e M nx)
noncomputable def R114_6 : RegF := fun call e M nx k => e.getK q2 fun v0 => e.getK q6 fun v1 => VV.onAny v0 (VV.onAny v1 (callV call s77 [v1] M nx fun v2 M nx => v_add v0 v2 fun v3 => callV call s77 [v3] M nx fun v4 M nx => VV.onAny v4 (e.setK q2 v4 fun e => k e M nx)))
noncomputable def R114_7 : RegF := fun call e M nx k => e.getK q1 fun v0 => v_add v0 (.i (.ofNat 1)) fun v1 => VV.onAny v1 (e.setK q1 v1 fun e => k e M nx)
noncomputable def S114 : List (P × I) := [(s0, q0), (s8, q1), (s3, q2), (s7, q3), (s9, q4), (s6, q5), (s5, q6), (s2, q7)]
noncomputable def G114 : F2 := .mk (fun call e M nx k => R114_0 call e M nx fun e M nx => R114_1 call e M nx fun e M nx => (fun (j0 : En → Mem → P → Bool) => R114_3 call e M nx fun e M nx => (fun (j1 : En → Mem → P → Bool) => loopK (fun call e M nx k => R114_4 call e M nx fun e M nx => e.getK q4 fun v => v.onB fun c => Bool.rec (k (.x 0) e M nx) (R114_5 call e M nx fun e M nx => R114_6 call e M nx fun e M nx => R114_7 call e M nx fun e M nx => k .n e M nx) c) call e M nx fun ex e M nx => Ex.rec (j1 e M nx) (k .r e M nx) (fun id => Bool.rec (k (.x id) e M nx) (j1 e M nx) (Nat.beq id 0)) ex) fun e M nx => j0 e M nx) fun e M nx => R114_2 call e M nx fun e M nx => k .r e M nx) [.t q7] [q0]
noncomputable def R115_0 : RegF := fun call e M nx k => e.getK q0 fun v0 => e.getK q1 fun v1 => bxV 109 v0 M nx fun v2 M nx => bxV 37 v1 M nx fun v3 M nx => alV 109 (rep 9 (.i (.ofNat 0)) ++ [(.bool false), (.i (.ofNat 0)), (.i (.ofNat 0)), (.i (.ofNat 0)), (.str []), (.bool false), (.i (.ofNat 0)), (.i (.ofNat 0)), (.i (.ofNat 0)), (.i (.ofNat 0)), (.i (.ofNat 0)), .nils]) M nx fun v4 M nx => VV.onAny (.bool false) (e.setK q3 v2 fun e => e.setK q5 v3 fun e => e.setK q4 v4 fun e => e.setK q8 (.bool false) fun e => k e M nx)
noncomputable def R115_1 : RegF := fun call e M nx k => e.getK q3 fun v0 => e.getK q5 fun v1 => e.getK q2 fun v2 => ldV M v0 21 true fun _ v3 => ldV M v1 8 true fun _ v4 => VV.onAny v2 (callV call s172 [v3, v4, v2] M nx fun v5 M nx => v_not v5 fun v6 => e.setK q6 v6 fun e => k e M nx)
noncomputable def R115_2 : RegF := fun call e M nx k => VV.onAny (.fn s173 [] []) (e.setK q7 (.fn s173 [] []) fun e => k e M nx)
noncomputable def R115_3 : RegF := fun call e M nx k => e.getK q7 fun v0 => e.getK q3 fun v1 => e.getK q5 fun v2 => e.getK q2 fun v3 => e.getK q4 fun v4 => VV.onAny v0 (ldV M v1 21 true fun _ v5 => ldV M v2 8 true fun _ v6 => VV.onAny v3 (cvV call v0 [v5, v6, v3] M nx fun v7 M nx => callV call s127 [v7] M nx fun v8 M nx => stV M v4 v8 21 fun M => VV.onAny (.bool true) (e.setK q8 (.bool true) fun e => k e M nx)))
noncomputable def R115_4 : RegF := fun call e M nx k => e.getK q3 fun v0 => e.getK q4 fun v1 => ldV M v0 21 true fun _ v2 => callV call s127 [v2] M nx fun v3 M nx => stV M v1 v3 21 fun M => VV.onAny (.bool false) (e.setK q8 (.bool false) fun e => k e M nx)
noncomputable def S115 : List (P × I) := [(s0, q0), (s1, q1), (s2, q2), (s3, q3), (s6, q4), (s4, q5), (s13, q6), (s8, q7), (s7, q8)]
noncomputable def G115 : F2 := .mk (fun call e M nx k => R115_0 call e M nx fun e M nx => R115_1 call e M nx fun e M nx => e.getK q6 fun v => v.onB fun c => Bool.rec (R115_2 call e M nx fun e M nx => R115_3 call e M nx fun e M nx => k .r e M nx) (R115_4 call e M nx fun e M nx => k .r e M nx) c) [.c q4 21 true, .t q8] [q0, q1, q2]
noncomputable def R116_0 : RegF := fun call e M nx k => VV.onAny (.i (.ofNat 0)) (e.setK q7 (.i (.ofNat 0)) fun e => k e M nx)
noncomputable def R116_1 : RegF := fun call e M nx k => VV.onAny (.i (.negSucc 0)) (e.setK q7 (.i (.negSucc 0)) fun e => k e M nx)
noncomputable def R116_2 : RegF := fun call e M nx k => e.getK q0 fun v0 => VV.onAny v0 (v_lenS v0 fun v1 => VV.onAny (.i (.ofNat 0)) (e.setK q4 v1 fun e => e.setK q2 (.i (.ofNat 0)) fun e => k e M nx))
noncomputable def R116_3 : RegF := fun call e M nx k => e.getK q2 fun v0 => e.getK q4 fun v1 => v_lt v0 v1 fun v2 => e.setK q5 v2 fun e => k e M nx
noncomputable def R116_4 : RegF := fun call e M nx k => e.getK q2 fun v0 => VV.onAny v0 (VV.onAny v0 (e.setK q3 v0 fun e => k e M nx))
noncomputable def R116_5 : RegF := fun call e M nx k => e.getK q1 fun v0 => e.getK q0 fun v1 => e.getK q3 fun v2 => VV.onAny v0 (VV.onAny v1 (VV.onAny v2 (v_ixS v1 v2 1 fun v3 => ldV M v3 1 false fun _ v4 => cvV call v0 [v4] M nx fun v5 M nx => e.setK q6 v5 fun e => k e M nx)))
noncomputable def R116_6 : RegF := fun call e M nx k => e.getK q2 fun v0 => v_add v0 (.i (.ofNat 1)) fun v1 => VV.onAny v1 (e.setK q2 v1 fun e => k e M nx)
noncomputable def R116_7 : RegF := fun call e M nx k => e.getK q3 fun v0 => VV.onAny v0 (VV.onAny v0 (e.setK q7 v0 fun e => k e M nx))
noncomputable def S116 : List (P × I) := [(s0, q0), (s1, q1), (s8, q2), (s5, q3), (s7, q4), (s9, q5), (s16, q6), (s4, q7)]
noncomputable def G116 : F2 := .mk (fun call e M nx k => R116_0 call e M nx fun e M nx => (fun (j0 : En → Mem → P → Bool) => R116_2 call e M nx fun e M nx => (fun (j1 : En → Mem → P → Bool) => loopK (fun call e M nx k => R116_3 call e M nx fun e M nx => e.getK q5 fun v => v.onB fun c => Bool.rec (k (.x 0) e M nx) (R116_4 call e M nx fun e M nx => R116_5 call e M nx fun e M nx => e.getK q6 fun v => v.onB fun c => Bool.rec (R116_6 call e M nx fun e M nx => k .n e M nx) (R116_7 call e M nx fun e M nx => k .r e M nx) c) c) call e M nx fun ex e M nx => Ex.rec (j1 e M nx) (k .r e M nx) (fun id => Bool.rec (k (.x id) e M nx) (j1 e M nx) (Nat.beq id 0)) ex) fun e M nx => j0 e M nx) fun e M nx => R116_1 call e M nx fun e M nx => k .r e M nx) [.t q7] [q0, q1]
noncomputable def R119_0 : RegF := fun call e M nx k => VV.onAny (.nils) (e.setK q2 (.nils) fun e => k e M nx)
noncomputable def R119_1 : RegF := fun call e M nx k => e.getK q0 fun v0 => VV.onAny v0 (v_nqP false v0 fun v1 => e.setK q1 v1 fun e => k e M nx)
noncomputable def R119_2 : RegF := fun call e M nx k => e.getK q0 fun v0 => VV.onAny v0 (v_nck v0 fun v1 => v_fa v1 2 fun v2 => ldV M v2 1 false fun _ v3 => callV call s43 [v3] M nx fun v4 M nx => VV.onAny v4 (e.setK q2 v4 fun e => k e M nx))
noncomputable def R119_3 : RegF := fun call e M nx k => VV.onAny (.nils) (e.setK q2 (.nils) fun e => k e M nx)
noncomputable def S119 : List (P × I) := [(s0, q0), (s4, q1), (s2, q2)]
noncomputable def G119 : F2 := .mk (fun call e M nx k => R119_0 call e M nx fun e M nx => R119_1 call e M nx fun e M nx => e.getK q1 fun v => v.onB fun c => Bool.rec (R119_2 call e M nx fun e M nx => k .r e M nx) (R119_3 call e M nx fun e M nx => k .r e M nx) c) [.t q2] [q0]
noncomputable def R120_0 : RegF := fun call e M nx k => VV.onAny (.nils) (e.setK q3 (.nils) fun e => k e M nx)
noncomputable def R120_1 : RegF := fun call e M nx k => e.getK q0 fun v0 => VV.onAny v0 (v_nqP false v0 fun v1 => e.setK q2 v1 fun e => k e M nx)
noncomputable def R120_2 : RegF := fun call e M nx k => e.getK q0 fun v0 => e.getK q1 fun v1 => VV.onAny v0 (v_nck v0 fun v2 => v_fa v2 1 fun v3 => ldV M v3 1 false fun _ v4 => VV.onAny v1 (lkuV .nils false v4 v1 M fun v5 => callV call s174 [v5] M nx fun v6 M nx => VV.onAny v6 (e.setK q3 v6 fun e => k e M nx)))
noncomputable def R120_3 : RegF := fun call e M nx k => VV.onAny (.nils) (e.setK q3 (.nils) fun e => k e M nx)
noncomputable def S120 : List (P × I) := [(s0, q0), (s1, q1), (s6, q2), (s4, q3)]
noncomputable def G120 : F2 := .mk (fun call e M nx k => R120_0 call e M nx fun e M nx => R120_1 call e M nx fun e M nx => e.getK q2 fun v => v.onB fun c => Bool.rec (R120_2 call e M nx fun e M nx => k .r e M nx) (R120_3 call e M nx fun e M nx => k .r e M nx) c) [.t q3] [q0, q1]
noncomputable def R122_0 : RegF := fun call e M nx k => VV.onAny (.i (.ofNat 0)) (VV.onAny (.bool false) (e.setK q9 (.i (.ofNat 0)) fun e => e.setK q10 (.bool false) fun e => k e M nx))
noncomputable def R122_1 : RegF := fun call e M nx k => callV call s175 [] M nx fun v0 M nx => VV.onAny v0 (e.setK q3 v0 fun e => k e M nx)
noncomputable def R122_2 : RegF := fun call e M nx k => e.getK q3 fun v0 => VV.onAny v0 (callV call s177 [v0] M nx fun v1 M nx => v_ext v1 0 fun v2 => v_ext v1 1 fun v3 => VV.onAny v2 (VV.onAny v3 (e.setK q9 v2 fun e => e.setK q10 v3 fun e => k e M nx)))
noncomputable def R122_3 : RegF := fun call e M nx k => e.getK q0 fun v0 => VV.onAny v0 (callV call s17 [v0] M nx fun v1 M nx => v_lenS v1 fun v2 => VV.onAny (.i (.ofNat 0)) (e.setK q6 v1 fun e => e.setK q4 v2 fun e => e.setK q1 (.i (.ofNat 0)) fun e => k e M nx))
noncomputable def R122_4 : RegF := fun call e M nx k => e.getK q1 fun v0 => e.getK q4 fun v1 => v_lt v0 v1 fun v2 => e.setK q5 v2 fun e => k e M nx
noncomputable def R122_5 : RegF := fun call e M nx k => e.getK q1 fun v0 => v_add v0 (.i (.ofNat 1)) fun v1 => VV.onAny v1 (e.setK q1 v1 fun e => k e M nx)
noncomputable def R122_6 : RegF := fun call e M nx k => e.getK q1 fun v0 => e.getK q6 fun v1 => VV.onAny v0 (v_ixS v1 v0 3 fun v2 => ldV M v2 3 true fun _ v3 => alV 73 [(.i (.ofNat 0)), (.i (.ofNat 0)), (.i (.ofNat 0))] M nx fun v4 M nx => VV.onAny v0 (stV M v4 v3 3 fun M => e.setK q8 v4 fun e => e.setK q2 v0 fun e => k e M nx))
noncomputable def R122_7 : RegF := fun call e M nx k => e.getK q0 fun v0 => e.getK q2 fun v1 => VV.onAny v0 (v_nck v0 fun v2 => v_fa v2 2 fun v3 => ldV M v3 1 false fun _ v4 => VV.onAny v1 (v_ixS v4 v1 21 fun v5 => v_fa v5 5 fun v6 => ldV M v6 1 false fun _ v7 => v_eq v7 (.i (.ofNat 1)) fun v8 => e.setK q7 v8 fun e => k e M nx))
noncomputable def R122_8 : RegF := fun call e M nx k => e.getK q3 fun v0 => e.getK q2 fun v1 => e.getK q8 fun v2 => VV.onAny v0 (VV.onAny v1 (ldV M v2 3 true fun _ v3 => callV call s176 [v0, v1, v3] M nx fun v4 M nx => k e M nx))
noncomputable def S122 : List (P × I) := [(s0, q0), (s11, q1), (s5, q2), (s4, q3), (s10, q4), (s12, q5), (s9, q6), (s24, q7), (s6, q8), (s2, q9), (s3, q10)]
noncomputable def G122 : F2 := .mk (fun call e M nx k => R122_0 call e M nx fun e M nx => R122_1 call e M nx fun e M nx => (fun (j0 : En → Mem → P → Bool) => R122_3 call e M nx fun e M nx => (fun (j1 : En → Mem → P → Bool) => loopK (fun call e M nx k => R122_4 call e M nx fun e M nx => e.getK q5 fun v => v.onB fun c => Bool.rec (k (.x 0) e M nx) ((fun (j2 : En → Mem → P → Bool) => (fun (j3 : En → Mem → P → Bool) => R122_6 call e M nx fun e M nx => R122_7 call e M nx fun e M nx => (fun (j4 : En → Mem → P → Bool) => e.getK q7 fun v => v.onB fun c => Bool.rec (j4 e M nx) (R122_8 call e M nx fun e M nx => j4 e M nx) c) fun e M nx => j3 e M nx) fun e M nx => j2 e M nx) fun e M nx => R122_5 call e M nx fun e M nx => k .n e M nx) c) call e M nx fun ex e M nx => Ex.rec (j1 e M nx) (k .r e M nx) (fun id => Bool.rec (k (.x id) e M nx) (j1 e M nx) (Nat.beq id 0)) ex) fun e M nx => j0 e M nx) fun e M nx => R122_2 call e M nx fun e M nx => k .r e M nx) [.t q9, .t q10] [q0]
end Ast
