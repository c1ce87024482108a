/- Functions of the program in the words of the interpreter, printed by a program of mine; the first half. -/
import Derived.Test.YtfmjehkohlbebaaGreatDoorD3
set_option maxRecDepth 100000
set_option linter.unusedVariables false
namespace Ast
open Go Den
abbrev rep (n : Nat) (v : VV) : List VV := List.replicate n v
def s0 : P := .z
def s1 : P := .a s0
def s2 : P := .b s0
def s3 : P := .c s0
def s4 : P := .d s0
def s5 : P := .a s1
def s6 : P := .b s1
def s7 : P := .c s1
def s8 : P := .d s1
def s9 : P := .a s2
def s10 : P := .b s2
def s11 : P := .c s2
def s12 : P := .d s2
def s13 : P := .a s3
def s14 : P := .b s3
def s15 : P := .c s3
def s16 : P := .d s3
def s17 : P := .a s4
def s18 : P := .b s4
def s19 : P := .c s4
def s20 : P := .d s4
def s21 : P := .a s5
def s22 : P := .b s5
def s23 : P := .c s5
def s24 : P := .d s5
def s25 : P := .a s6
def s26 : P := .b s6
def s27 : P := .c s6
def s28 : P := .d s6
def s29 : P := .a s7
def s30 : P := .b s7
def s31 : P := .c s7
def s32 : P := .d s7
def s33 : P := .a s8
def s34 : P := .b s8
def s35 : P := .c s8
def s36 : P := .d s8
def s37 : P := .a s9
def s38 : P := .b s9
def s39 : P := .c s9
def s40 : P := .d s9
def s41 : P := .a s10
def s42 : P := .b s10
def s43 : P := .c s10
def s44 : P := .d s10
def s45 : P := .a s11
def s46 : P := .b s11
def s47 : P := .c s11
def s48 : P := .d s11
def s49 : P := .a s12
def s50 : P := .b s12
def s51 : P := .c s12
def s52 : P := .d s12
def s53 : P := .a s13
def s54 : P := .b s13
def s55 : P := .c s13
def s56 : P := .d s13
def s57 : P := .a s14
def s58 : P := .b s14
def s59 : P := .c s14
def s60 : P := .d s14
def s61 : P := .a s15
def s62 : P := .b s15
def s63 : P := .c s15
def s64 : P := .d s15
def s65 : P := .a s16
def s66 : P := .b s16
def s67 : P := .c s16
def s68 : P := .d s16
def s69 : P := .a s17
def s70 : P := .b s17
def s71 : P := .c s17
def s72 : P := .d s17
def s73 : P := .a s18
def s74 : P := .b s18
def s75 : P := .c s18
def s76 : P := .d s18
def s77 : P := .a s19
def s78 : P := .b s19
def s79 : P := .c s19
def s80 : P := .d s19
def s81 : P := .a s20
def s82 : P := .b s20
def s83 : P := .c s20
def s84 : P := .d s20
def s85 : P := .a s21
def s86 : P := .b s21
def s87 : P := .c s21
def s88 : P := .d s21
def s89 : P := .a s22
def s90 : P := .b s22
def s91 : P := .c s22
def s92 : P := .d s22
def s93 : P := .a s23
def s94 : P := .b s23
def s95 : P := .c s23
def s96 : P := .d s23
def s97 : P := .a s24
def s98 : P := .b s24
def s99 : P := .c s24
def s100 : P := .d s24
def s101 : P := .a s25
def s102 : P := .b s25
def s103 : P := .c s25
def s104 : P := .d s25
def s105 : P := .a s26
def s106 : P := .b s26
def s107 : P := .c s26
def s108 : P := .d s26
def s109 : P := .a s27
def s110 : P := .b s27
def s111 : P := .c s27
def s112 : P := .d s27
def s113 : P := .a s28
def s114 : P := .b s28
def s115 : P := .c s28
def s116 : P := .d s28
def s117 : P := .a s29
def s118 : P := .b s29
def s119 : P := .c s29
def s120 : P := .d s29
def s121 : P := .a s30
def s122 : P := .b s30
def s123 : P := .c s30
def s124 : P := .d s30
def s125 : P := .a s31
def s126 : P := .b s31
def s127 : P := .c s31
def s128 : P := .d s31
def s129 : P := .a s32
def s130 : P := .b s32
def s131 : P := .c s32
def s132 : P := .d s32
def s133 : P := .a s33
def s134 : P := .b s33
def s135 : P := .c s33
def s136 : P := .d s33
def s137 : P := .a s34
def s138 : P := .b s34
def s139 : P := .c s34
def s140 : P := .d s34
def s141 : P := .a s35
def s142 : P := .b s35
def s143 : P := .c s35
def s144 : P := .d s35
def s145 : P := .a s36
def s146 : P := .b s36
def s147 : P := .c s36
def s148 : P := .d s36
def s149 : P := .a s37
def s150 : P := .b s37
def s151 : P := .c s37
def s152 : P := .d s37
def s153 : P := .a s38
def s154 : P := .b s38
def s155 : P := .c s38
def s156 : P := .d s38
def s157 : P := .a s39
def s158 : P := .b s39
def s159 : P := .c s39
def s160 : P := .d s39
def s161 : P := .a s40
def s162 : P := .b s40
def s163 : P := .c s40
def s164 : P := .d s40
def s165 : P := .a s41
def s166 : P := .b s41
def s167 : P := .c s41
def s168 : P := .d s41
def s169 : P := .a s42
def s170 : P := .b s42
def s171 : P := .c s42
def s172 : P := .d s42
def s173 : P := .a s43
def s174 : P := .b s43
def s175 : P := .c s43
def s176 : P := .d s43
def s177 : P := .a s44
def s178 : P := .b s44
def s179 : P := .c s44
def s180 : P := .d s44
def s181 : P := .a s45
def s182 : P := .b s45
def s183 : P := .c s45
def s184 : P := .d s45
def s185 : P := .a s46
def s186 : P := .b s46
def s187 : P := .c s46
def s188 : P := .d s46
def s189 : P := .a s47
def s190 : P := .b s47
def s191 : P := .c s47
def s192 : P := .d s47
def s193 : P := .a s48
def s194 : P := .b s48
def s195 : P := .c s48
def s196 : P := .d s48
def s197 : P := .a s49
def s198 : P := .b s49
def s199 : P := .c s49
def s200 : P := .d s49
def s201 : P := .a s50
def s202 : P := .b s50
def s203 : P := .c s50
def s204 : P := .d s50
def s205 : P := .a s51
def s206 : P := .b s51
def s207 : P := .c s51
def s208 : P := .d s51
def s209 : P := .a s52
def s210 : P := .b s52
def s211 : P := .c s52
def s212 : P := .d s52
def s213 : P := .a s53
def s214 : P := .b s53
def s215 : P := .c s53
def s216 : P := .d s53
def s217 : P := .a s54
def s218 : P := .b s54
def s219 : P := .c s54
def s220 : P := .d s54
def s221 : P := .a s55
def s222 : P := .b s55
def s223 : P := .c s55
def s224 : P := .d s55
def s225 : P := .a s56
def s226 : P := .b s56
def s227 : P := .c s56
def s228 : P := .d s56
def s229 : P := .a s57
def s230 : P := .b s57
def s231 : P := .c s57
def s232 : P := .d s57
def s233 : P := .a s58
def s234 : P := .b s58
def s235 : P := .c s58
def s236 : P := .d s58
def s237 : P := .a s59
def s238 : P := .b s59
def s239 : P := .c s59
def s240 : P := .d s59
def s241 : P := .a s60
def s242 : P := .b s60
def s243 : P := .c s60
def s244 : P := .d s60
def s245 : P := .a s61
def s246 : P := .b s61
def s247 : P := .c s61
def s248 : P := .d s61
def s249 : P := .a s62
def s250 : P := .b s62
def s251 : P := .c s62
def s252 : P := .d s62
def s253 : P := .a s63
def s254 : P := .b s63
def s255 : P := .c s63
def s256 : P := .d s63
def s257 : P := .a s64
def s258 : P := .b s64
def s259 : P := .c s64
def s260 : P := .d s64
def s261 : P := .a s65
def s262 : P := .b s65
def s263 : P := .c s65
def s264 : P := .d s65
def s265 : P := .a s66
def s266 : P := .b s66
def s267 : P := .c s66
def s268 : P := .d s66
def s269 : P := .a s67
def s270 : P := .b s67
def s271 : P := .c s67
def s272 : P := .d s67
def s273 : P := .a s68
def s274 : P := .b s68
def s275 : P := .c s68
def s276 : P := .d s68
def s277 : P := .a s69
def s278 : P := .b s69
def s279 : P := .c s69
def s280 : P := .d s69
def s281 : P := .a s70
def s282 : P := .b s70
def s283 : P := .c s70
def s284 : P := .d s70
def s285 : P := .a s71
def s286 : P := .b s71
def s287 : P := .c s71
def s288 : P := .d s71
def s289 : P := .a s72
def s290 : P := .b s72
def s291 : P := .c s72
def s292 : P := .d s72
def s293 : P := .a s73
def s294 : P := .b s73
def s295 : P := .c s73
def s296 : P := .d s73
def s297 : P := .a s74
def s298 : P := .b s74
def s299 : P := .c s74
def s300 : P := .d s74
def s301 : P := .a s75
def s302 : P := .b s75
def s303 : P := .c s75
def s304 : P := .d s75
def s305 : P := .a s76
def s306 : P := .b s76
def s307 : P := .c s76
def s308 : P := .d s76
def s309 : P := .a s77
def s310 : P := .b s77
def s311 : P := .c s77
def s312 : P := .d s77
def s313 : P := .a s78
def s314 : P := .b s78
def s315 : P := .c s78
def s316 : P := .d s78
def s317 : P := .a s79
def s318 : P := .b s79
def s319 : P := .c s79
def s320 : P := .d s79
def s321 : P := .a s80
def s322 : P := .b s80
def s323 : P := .c s80
def s324 : P := .d s80
def s325 : P := .a s81
def s326 : P := .b s81
def s327 : P := .c s81
def s328 : P := .d s81
def s329 : P := .a s82
def s330 : P := .b s82
def s331 : P := .c s82
def s332 : P := .d s82
def s333 : P := .a s83
def s334 : P := .b s83
def s335 : P := .c s83
def s336 : P := .d s83
def s337 : P := .a s84
def s338 : P := .b s84
def s339 : P := .c s84
def s340 : P := .d s84
def s341 : P := .a s85
def s342 : P := .b s85
def s343 : P := .c s85
def s344 : P := .d s85
def s345 : P := .a s86
def s346 : P := .b s86
def s347 : P := .c s86
def s348 : P := .d s86
def s349 : P := .a s87
def s350 : P := .b s87
def s351 : P := .c s87
def s352 : P := .d s87
def s353 : P := .a s88
def s354 : P := .b s88
def s355 : P := .c s88
def s356 : P := .d s88
def s357 : P := .a s89
def s358 : P := .b s89
def s359 : P := .c s89
def s360 : P := .d s89
def s361 : P := .a s90
def s362 : P := .b s90
def s363 : P := .c s90
def s364 : P := .d s90
def s365 : P := .a s91
def s366 : P := .b s91
def s367 : P := .c s91
def s368 : P := .d s91
def s369 : P := .a s92
def s370 : P := .b s92
def s371 : P := .c s92
def s372 : P := .d s92
def s373 : P := .a s93
def s374 : P := .b s93
def s375 : P := .c s93
def s376 : P := .d s93
def s377 : P := .a s94
def s378 : P := .b s94
def s379 : P := .c s94
def s380 : P := .d s94
def s381 : P := .a s95
def s382 : P := .b s95
def s383 : P := .c s95
def s384 : P := .d s95
def s385 : P := .a s96
def s386 : P := .b s96
def s387 : P := .c s96
def s388 : P := .d s96
def s389 : P := .a s97
def s390 : P := .b s97
def s391 : P := .c s97
def s392 : P := .d s97
def s393 : P := .a s98
def s394 : P := .b s98
def s395 : P := .c s98
def s396 : P := .d s98
def s397 : P := .a s99
def s398 : P := .b s99
def s399 : P := .c s99
def s400 : P := .d s99
def s401 : P := .a s100
def s402 : P := .b s100
def s403 : P := .c s100
def s404 : P := .d s100
def s405 : P := .a s101
def s406 : P := .b s101
def s407 : P := .c s101
def s408 : P := .d s101
def s409 : P := .a s102
def s410 : P := .b s102
def s411 : P := .c s102
def s412 : P := .d s102
def s413 : P := .a s103
def s414 : P := .b s103
def s415 : P := .c s103
def s416 : P := .d s103
def s417 : P := .a s104
def s418 : P := .b s104
def s419 : P := .c s104
def s420 : P := .d s104
def s421 : P := .a s105
def s422 : P := .b s105
def s423 : P := .c s105
def s424 : P := .d s105
def s425 : P := .a s106
def s426 : P := .b s106
def s427 : P := .c s106
def s428 : P := .d s106
def s429 : P := .a s107
def s430 : P := .b s107
def s431 : P := .c s107
def s432 : P := .d s107
def s433 : P := .a s108
def s434 : P := .b s108
def s435 : P := .c s108
def s436 : P := .d s108
def s437 : P := .a s109
def s438 : P := .b s109
def s439 : P := .c s109
def s440 : P := .d s109
def s441 : P := .a s110
def s442 : P := .b s110
def s443 : P := .c s110
def s444 : P := .d s110
def s445 : P := .a s111
def s446 : P := .b s111
def s447 : P := .c s111
def s448 : P := .d s111
def q0 : I := .i0
def q1 : I := .i1
def q2 : I := .i2
def q3 : I := .i3
def q4 : I := .i4
def q5 : I := .i5
def q6 : I := .i6
def q7 : I := .i7
def q8 : I := .nx q0
def q9 : I := .nx q1
def q10 : I := .nx q2
def q11 : I := .nx q3
def q12 : I := .nx q4
def q13 : I := .nx q5
def q14 : I := .nx q6
def q15 : I := .nx q7
def q16 : I := .nx q8
def q17 : I := .nx q9
def q18 : I := .nx q10
def q19 : I := .nx q11
def q20 : I := .nx q12
def q21 : I := .nx q13
def q22 : I := .nx q14
def q23 : I := .nx q15
def q24 : I := .nx q16
def q25 : I := .nx q17
def q26 : I := .nx q18
def q27 : I := .nx q19
noncomputable section
def R5_0 : RegF := fun a e M n k => VV.onAny (.bool false) (e.setK q11 (.bool false) fun e => k e M n)
def R5_1 : RegF := fun a e M n k => e.getK q0 fun v0 => VV.onAny v0 (v_lenS v0 fun v1 => v_min v1 (.i (.ofNat 6)) fun v2 => VV.onAny v2 (e.setK q2 v2 fun e => k e M n))
def R5_2 : RegF := fun a e M n k => v_bld [.nils, .nils, .nils, .nils, (.i (.ofNat 0)), (.i (.ofNat 0))] [(4, 1, (.i (.ofNat 8))), (5, 1, (.i (.ofNat 100000)))] fun v0 => alV 28 [.nils, .nils, .nils, .nils, (.i (.ofNat 0)), (.i (.ofNat 0))] M n fun v1 M n => stV M v1 v0 6 fun M => e.setK q4 v1 fun e => k e M n
def R5_3 : RegF := fun a e M n k => VV.onAny (.nils) (e.setK q5 (.nils) fun e => k e M n)
def R5_4 : RegF := fun a e M n k => e.getK q4 fun v0 => e.getK q5 fun v1 => ldW M v0 6 true fun _ v2 => VV.onAny v1 (callV a s17 [v2, v1, (.i (.ofNat 20))] M n fun v3 M n => alV 57 [.nils, .nils, .nils, (.i (.ofNat 0))] M n fun v4 M n => stV M v4 v3 4 fun M => e.setK q6 v4 fun e => k e M n)
def R5_5 : RegF := fun a e M n k => e.getK q6 fun v0 => e.getK q2 fun v1 => v_fa v0 3 fun v2 => ldW M v2 1 false fun _ v3 => v_ne v3 (.i (.ofNat 0)) fun v4 => VV.onAny v4 (gdK v4 false .off M n (fun j => v_fa v0 1 fun v => j v M n) fun v5 M n => gdK v4 false .off M n (fun j => ldW M v5 1 false fun _ v => j v M n) fun v6 M n => gdK v4 false .off M n (fun j => v_lenS v6 fun v => j v M n) fun v7 M n => gdK v4 false .off M n (fun j => v_mv v1 fun v => j v M n) fun v8 M n => gdK v4 false .off M n (fun j => v_ne v7 v8 fun v => j v M n) fun v9 M n => v_pick v4 (.bool true) v9 fun v10 => e.setK q8 v10 fun e => k e M n)
def R5_6 : RegF := fun a e M n k => callV a s16 [] M n fun v0 M n => VV.onAny v0 (e.setK q11 v0 fun e => k e M n)
def R5_7 : RegF := fun a e M n k => VV.onAny (.i (.ofNat 0)) (e.setK q3 (.i (.ofNat 0)) fun e => k e M n)
def R5_8 : RegF := fun a e M n k => e.getK q3 fun v0 => e.getK q2 fun v1 => VV.onAny v0 (VV.onAny v1 (v_lt v0 v1 fun v2 => e.setK q9 v2 fun e => k e M n))
def R5_9 : RegF := fun a e M n k => e.getK q6 fun v0 => e.getK q3 fun v1 => (fun M0 => v_fa v0 1 fun v2 => ldW M v2 1 false fun _ v3 => VV.onAny v1 (v_ixS v3 v1 6 fun v4 => v_fa v4 3 fun v5 => ldW M v5 1 false fun _ v6 => VV.onAny v1 (v_add v1 (.i (.ofNat 1)) fun v7 => v_mul (.i (.ofNat 2)) v7 fun v8 => v_add (.i (.ofNat 3)) v8 fun v9 => v_ne v6 v9 fun v10 => VV.onAny v10 (gdK v10 false .off M n (fun j => v_mv v1 fun v => j v M n) fun v11 M n => gdK v10 false .off M n (fun j => v_lt (.i (.ofNat 0)) v11 fun v => j v M n) fun v12 M n => gdK v10 false .off M n (fun j => v_mv v12 fun v => j v M n) fun v13 M n => gdK v13 true .off M n (fun j => v_fa v0 1 fun v => j v M n) fun v14 M n => gdK v13 true .off M n (fun j => ldW M v14 1 false fun _ v => j v M n) fun v15 M n => gdK v13 true .off M n (fun j => v_mv v1 fun v => j v M n) fun v16 M n => gdK v13 true .off M n (fun j => v_sub v16 (.i (.ofNat 1)) fun v => j v M n) fun v17 M n => gdK v13 true .off M n (fun j => v_ixS v15 v17 6 fun v => j v M n) fun v18 M n => gdK v13 true .off M n (fun j => v_fa v18 2 fun v => j v M n) fun v19 M n => gdK v13 true .off M n (fun j => ldW M v19 1 false fun _ v => j v M n) fun v20 M n => gdK v13 true .off M n (fun j => v_fa v0 1 fun v => j v M n) fun v21 M n => gdK v13 true .off M n (fun j => ldW M v21 1 false fun _ v => j v M n) fun v22 M n => gdK v13 true .off M n (fun j => v_mv v1 fun v => j v M n) fun v23 M n => gdK v13 true .off M n (fun j => v_ixS v22 v23 6 fun v => j v M n) fun v24 M n => gdK v13 true .off M n (fun j => v_fa v24 2 fun v => j v M n) fun v25 M n => gdK v13 true .off M n (fun j => ldW M v25 1 false fun _ v => j v M n) fun v26 M n => gdK v13 true .off M n (fun j => v_lt v26 v20 fun v => j v M n) fun v27 M n => gdK v13 true .off M n (fun j => v_mv v27 fun v => j v M n) fun v28 M n => gdK v28 false .off M n (fun j => v_fa v0 1 fun v => j v M n) fun v29 M n => gdK v28 false .off M n (fun j => ldW M v29 1 false fun _ v => j v M n) fun v30 M n => gdK v28 false .off M n (fun j => v_mv v1 fun v => j v M n) fun v31 M n => gdK v28 false .off M n (fun j => v_sub v31 (.i (.ofNat 1)) fun v => j v M n) fun v32 M n => gdK v28 false .off M n (fun j => v_ixS v30 v32 6 fun v => j v M n) fun v33 M n => gdK v28 false .off M n (fun j => v_fa v33 2 fun v => j v M n) fun v34 M n => gdK v28 false .off M n (fun j => ldW M v34 1 false fun _ v => j v M n) fun v35 M n => gdK v28 false .off M n (fun j => v_fa v0 1 fun v => j v M n) fun v36 M n => gdK v28 false .off M n (fun j => ldW M v36 1 false fun _ v => j v M n) fun v37 M n => gdK v28 false .off M n (fun j => v_mv v1 fun v => j v M n) fun v38 M n => gdK v28 false .off M n (fun j => v_ixS v37 v38 6 fun v => j v M n) fun v39 M n => gdK v28 false .off M n (fun j => v_fa v39 2 fun v => j v M n) fun v40 M n => gdK v28 false .off M n (fun j => ldW M v40 1 false fun _ v => j v M n) fun v41 M n => gdK v28 false .off M n (fun j => v_eq v35 v41 fun v => j v M n) fun v42 M n => gdK v28 false .off M n (fun j => v_mv v42 fun v => j v M n) fun v43 M n => gdK v43 true .off M n (fun j => v_fa v0 1 fun v => j v M n) fun v44 M n => gdK v43 true .off M n (fun j => ldW M v44 1 false fun _ v => j v M n) fun v45 M n => gdK v43 true .off M n (fun j => v_mv v1 fun v => j v M n) fun v46 M n => gdK v43 true .off M n (fun j => v_sub v46 (.i (.ofNat 1)) fun v => j v M n) fun v47 M n => gdK v43 true .off M n (fun j => v_ixS v45 v47 6 fun v => j v M n) fun v48 M n => gdK v43 true .off M n (fun j => v_fa v48 0 fun v => j v M n) fun v49 M n => gdK v43 true .off M n (fun j => ldW M v49 1 false fun _ v => j v M n) fun v50 M n => gdK v43 true .off M n (fun j => v_fa v0 1 fun v => j v M n) fun v51 M n => gdK v43 true .off M n (fun j => ldW M v51 1 false fun _ v => j v M n) fun v52 M n => gdK v43 true .off M n (fun j => v_mv v1 fun v => j v M n) fun v53 M n => gdK v43 true .off M n (fun j => v_ixS v52 v53 6 fun v => j v M n) fun v54 M n => gdK v43 true .off M n (fun j => v_fa v54 0 fun v => j v M n) fun v55 M n => gdK v43 true .off M n (fun j => ldW M v55 1 false fun _ v => j v M n) fun v56 M n => gdK v43 true .off M n (fun j => v_le v56 v50 fun v => j v M n) fun v57 M n => gdK v28 false .off M n (fun j => v_pick v43 v57 (.bool false) fun v => j v M n) fun v58 M n => gdK v13 true .off M n (fun j => v_pick v28 (.bool true) v58 fun v => j v M n) fun v59 M n => gdK v10 false .off M n (fun j => v_pick v13 v59 (.bool false) fun v => j v M n) fun v60 M n => v_pick v10 (.bool true) v60 fun v61 => Bool.rec false (e.setK q10 v61 fun e => k e M n) (keptB M0 M []))))) M
def R5_10 : RegF := fun a e M n k => e.getK q3 fun v0 => VV.onAny v0 (v_add v0 (.i (.ofNat 1)) fun v1 => VV.onAny v1 (e.setK q3 v1 fun e => k e M n))
def R5_11 : RegF := fun a e M n k => VV.onAny (.bool false) (e.setK q11 (.bool false) fun e => k e M n)
def R5_12 : RegF := fun a e M n k => VV.onAny (.bool false) (e.setK q11 (.bool false) fun e => k e M n)
def R5_13 : RegF := fun a e M n k => VV.onAny (.i (.ofNat 0)) (e.setK q1 (.i (.ofNat 0)) fun e => k e M n)
def R5_14 : RegF := fun a e M n k => e.getK q1 fun v0 => e.getK q2 fun v1 => VV.onAny v0 (VV.onAny v1 (v_lt v0 v1 fun v2 => e.setK q7 v2 fun e => k e M n))
def R5_15 : RegF := fun a e M n k => e.getK q4 fun v0 => e.getK q0 fun v1 => e.getK q1 fun v2 => (fun M0 => v_fa v0 0 fun v3 => ldV M v3 1 false fun bv4 v4 => VV.onAny v1 (VV.onAny v2 (v_ixS v1 v2 1 fun v5 => ldW M v5 1 false fun _ v6 => callV a s7 [v6, (.i (.ofNat 40))] M n fun v7 M n => v_add (.i (.ofNat 2)) v7 fun v8 => callV a s8 [(.i (.ofNat 2))] M n fun v9 M n => v_bld [(.i (.ofNat 0)), (.i (.ofNat 0)), (.i (.ofNat 0)), (.i (.ofNat 0)), (.i (.ofNat 0)), (.i (.ofNat 0)), .nils, .nils] [(0, 1, (.i (.ofNat 1))), (2, 1, (.i (.ofNat 500))), (3, 1, v8), (4, 1, (.i (.ofNat 2))), (5, 1, (.i (.negSucc 0))), (7, 1, v9)] fun v10 => bslV 32 8 1 [(.i (.ofNat 0)), (.i (.ofNat 0)), (.i (.ofNat 0)), (.i (.ofNat 0)), (.i (.ofNat 0)), (.i (.ofNat 0)), .nils, .nils] [(0, 8, v10)] M n fun v11 M n => appV 32 8 96 v4 v11 M n fun v12 M n => v_fa v0 0 fun v13 => Bool.rec false (stV M v13 v12 1 fun M => k e M n) (keptB M0 M (bv4 :: []))))) M
def R5_16 : RegF := fun a e M n k => e.getK q5 fun v0 => e.getK q1 fun v1 => VV.onAny v0 (VV.onAny v1 (callV a s12 [(.i (.ofNat 3)), v1] M n fun v2 M n => bslV 41 3 1 [(.i (.ofNat 0)), (.i (.ofNat 0)), (.i (.ofNat 0))] [(0, 3, v2)] M n fun v3 M n => appV 41 3 24 v0 v3 M n fun v4 M n => VV.onAny v4 (e.setK q5 v4 fun e => k e M n)))
def R5_17 : RegF := fun a e M n k => e.getK q1 fun v0 => VV.onAny v0 (v_add v0 (.i (.ofNat 1)) fun v1 => VV.onAny v1 (e.setK q1 v1 fun e => k e M n))
def S5 : List (P × I) := [(s0, q0), (s6, q1), (s3, q2), (s8, q3), (s4, q4), (s5, q5), (s7, q6), (s15, q7), (s48, q8), (s51, q9), (s116, q10), (s2, q11)]
def G5 : F2 := .mk (fun a e M n k => R5_0 a e M n fun e M n => R5_1 a e M n fun e M n => R5_2 a e M n fun e M n => R5_3 a e M n fun e M n => (fun (j0 : En → Mem → P → Bool) => R5_13 a e M n fun e M n => (fun (j3 : En → Mem → P → Bool) => loopK (fun a e M n k => R5_14 a e M n fun e M n => e.getK q7 fun v => v.onB fun c => Bool.rec (k (.x 0) e M n) (R5_15 a e M n fun e M n => R5_16 a e M n fun e M n => R5_17 a e M n fun e M n => k .n e M n) c) a e M n fun ex e M n => Ex.rec (j3 e M n) (k .r e M n) (fun id => Bool.rec (k (.x id) e M n) (j3 e M n) (Nat.beq id 0)) ex) fun e M n => j0 e M n) fun e M n => R5_4 a e M n fun e M n => R5_5 a e M n fun e M n => e.getK q8 fun v => v.onB fun c => Bool.rec ((fun (j1 : En → Mem → P → Bool) => R5_7 a e M n fun e M n => (fun (j2 : En → Mem → P → Bool) => loopK (fun a e M n k => R5_8 a e M n fun e M n => e.getK q9 fun v => v.onB fun c => Bool.rec (k (.x 2) e M n) (R5_9 a e M n fun e M n => e.getK q10 fun v => v.onB fun c => Bool.rec (R5_10 a e M n fun e M n => k .n e M n) (R5_11 a e M n fun e M n => k .r e M n) c) c) a e M n fun ex e M n => Ex.rec (j2 e M n) (k .r e M n) (fun id => Bool.rec (k (.x id) e M n) (j2 e M n) (Nat.beq id 2)) ex) fun e M n => j1 e M n) fun e M n => R5_6 a e M n fun e M n => k .r e M n) (R5_12 a e M n fun e M n => k .r e M n) c) [.t q11] [q0]
def G7 : F2 := .spec (lowS)
def R8_0 : RegF := fun a e M n k => VV.onAny (.nils) (e.setK q2 (.nils) fun e => k e M n)
def R8_1 : RegF := fun a e M n k => e.getK q0 fun v0 => VV.onAny v0 (v_le v0 (.i (.ofNat 1)) fun v1 => e.setK q1 v1 fun e => k e M n)
def R8_2 : RegF := fun a e M n k => e.getK q0 fun v0 => VV.onAny v0 (v_sub v0 (.i (.ofNat 1)) fun v1 => v_bld [(.i (.ofNat 0)), (.i (.ofNat 0)), (.i (.ofNat 0)), (.i (.ofNat 0)), (.i (.ofNat 0)), (.i (.ofNat 0)), (.i (.ofNat 0)), (.str []), (.str [])] [(0, 1, (.i (.ofNat 1))), (1, 1, v1)] fun v2 => v_bld [(.i (.ofNat 0)), (.i (.ofNat 0)), (.i (.ofNat 0)), (.i (.ofNat 0)), (.i (.ofNat 0)), (.i (.ofNat 0)), (.i (.ofNat 0)), (.str []), (.str [])] [(0, 1, (.i (.ofNat 4)))] fun v3 => bslV 66 9 2 (rep 7 (.i (.ofNat 0)) ++ [(.str []), (.str [])] ++ rep 7 (.i (.ofNat 0)) ++ [(.str []), (.str [])]) [(0, 9, v2), (9, 9, v3)] M n fun v4 M n => VV.onAny v4 (e.setK q2 v4 fun e => k e M n))
def R8_3 : RegF := fun a e M n k => v_bld [(.i (.ofNat 0)), (.i (.ofNat 0)), (.i (.ofNat 0)), (.i (.ofNat 0)), (.i (.ofNat 0)), (.i (.ofNat 0)), (.i (.ofNat 0)), (.str []), (.str [])] [(0, 1, (.i (.ofNat 4)))] fun v0 => bslV 66 9 1 [(.i (.ofNat 0)), (.i (.ofNat 0)), (.i (.ofNat 0)), (.i (.ofNat 0)), (.i (.ofNat 0)), (.i (.ofNat 0)), (.i (.ofNat 0)), (.str []), (.str [])] [(0, 9, v0)] M n fun v1 M n => VV.onAny v1 (e.setK q2 v1 fun e => k e M n)
def S8 : List (P × I) := [(s0, q0), (s4, q1), (s2, q2)]
def G8 : F2 := .mk (fun a e M n k => R8_0 a e M n fun e M n => R8_1 a e M n fun e M n => e.getK q1 fun v => v.onB fun c => Bool.rec (R8_2 a e M n fun e M n => k .r e M n) (R8_3 a e M n fun e M n => k .r e M n) c) [.t q2] [q0]
def R10_0 : RegF := fun a e M n k => alV 36 [(.i (.ofNat 0)), (.bool false)] M n fun v0 M n => e.setK q2 v0 fun e => k e M n
def R10_1 : RegF := fun a e M n k => e.getK q0 fun v0 => VV.onAny v0 (v_nqP false v0 fun v1 => VV.onAny v1 (gdK v1 false .off M n (fun j => v_mv v0 fun v => j v M n) fun v2 M n => gdK v1 false .off M n (fun j => v_nck v2 fun v => j v M n) fun v3 M n => gdK v1 false .off M n (fun j => v_fa v3 1 fun v => j v M n) fun v4 M n => gdK v1 false .off M n (fun j => ldW M v4 1 false fun _ v => j v M n) fun v5 M n => gdK v1 false .off M n (fun j => v_eq v5 (.i (.ofNat 16777215)) fun v => j v M n) fun v6 M n => v_pick v1 (.bool true) v6 fun v7 => e.setK q6 v7 fun e => k e M n))
def R10_2 : RegF := fun a e M n k => e.getK q0 fun v0 => VV.onAny v0 (v_nck v0 fun v1 => v_fa v1 21 fun v2 => stV M v2 (.bool false) 1 fun M => k e M n)
def R10_3 : RegF := fun a e M n k => e.getK q0 fun v0 => VV.onAny v0 (callV a s23 [v0] M n fun v1 M n => alV 36 [(.i (.ofNat 0)), (.bool false)] M n fun v2 M n => stV M v2 v1 2 fun M => e.setK q23 v2 fun e => k e M n)
def R10_4 : RegF := fun a e M n k => e.getK q0 fun v0 => (fun M0 => VV.onAny v0 (v_nck v0 fun v1 => v_fa v1 9 fun v2 => ldW M v2 1 false fun _ v3 => VV.onAny v0 (v_nck v0 fun v4 => v_fa v4 1 fun v5 => ldW M v5 1 false fun _ v6 => callV a s27 [v3, v6] M n fun v7 M n => Bool.rec false (k e M n) (keptB M0 M [])))) M
def R10_5 : RegF := fun a e M n k => e.getK q0 fun v0 => VV.onAny v0 (v_nck v0 fun v1 => v_fa v1 1 fun v2 => ldW M v2 1 false fun _ v3 => v_add v3 (.i (.ofNat 1)) fun v4 => v_nck v0 fun v5 => v_fa v5 1 fun v6 => stV M v6 v4 1 fun M => k e M n)
def R10_6 : RegF := fun a e M n k => e.getK q23 fun v0 => e.getK q2 fun v1 => ldW M v0 2 true fun _ v2 => stV M v1 v2 2 fun M => k e M n
def R10_7 : RegF := fun a e M n k => e.getK q0 fun v0 => VV.onAny v0 (v_nck v0 fun v1 => v_fa v1 21 fun v2 => ldW M v2 1 false fun _ v3 => VV.onAny v3 (gdK v3 false .off M n (fun j => v_mv v0 fun v => j v M n) fun v4 M n => gdK v3 false .off M n (fun j => v_nck v4 fun v => j v M n) fun v5 M n => gdK v3 false .off M n (fun j => v_fa v5 2 fun v => j v M n) fun v6 M n => gdK v3 false .off M n (fun j => ldW M v6 1 false fun _ v => j v M n) fun v7 M n => gdK v3 false .no M n (fun j => callV a s24 [v7, (.fn s25 [] [])] M n fun v M n => j v M n) fun v8 M n => gdK v3 false .off M n (fun j => v_not v8 fun v => j v M n) fun v9 M n => v_pick v3 (.bool true) v9 fun v10 => e.setK q22 v10 fun e => k e M n))
def R10_8 : RegF := fun a e M n k => e.getK q0 fun v0 => (fun M0 => VV.onAny v0 (v_nck v0 fun v1 => v_fa v1 9 fun v2 => ldW M v2 1 false fun _ v3 => VV.onAny v0 (v_nck v0 fun v4 => v_fa v4 1 fun v5 => ldW M v5 1 false fun _ v6 => callV a s26 [v3, v6] M n fun v7 M n => Bool.rec false (k e M n) (keptB M0 M [])))) M
def R10_9 : RegF := fun a e M n k => e.getK q1 fun v0 => VV.onAny v0 (v_lenS v0 fun v1 => VV.onAny (.i (.ofNat 0)) (e.setK q20 v0 fun e => e.setK q18 v1 fun e => e.setK q5 (.i (.ofNat 0)) fun e => k e M n))
def R10_10 : RegF := fun a e M n k => e.getK q5 fun v0 => e.getK q18 fun v1 => v_lt v0 v1 fun v2 => e.setK q19 v2 fun e => k e M n
def R10_11 : RegF := fun a e M n k => e.getK q20 fun v0 => e.getK q5 fun v1 => v_ixS v0 v1 3 fun v2 => ldW M v2 3 true fun _ v3 => alV 41 [(.i (.ofNat 0)), (.i (.ofNat 0)), (.i (.ofNat 0))] M n fun v4 M n => stV M v4 v3 3 fun M => e.setK q21 v4 fun e => k e M n
def R10_12 : RegF := fun a e M n k => e.getK q0 fun v0 => e.getK q21 fun v1 => VV.onAny v0 (ldW M v1 3 true fun _ v2 => callV a s22 [v0, v2] M n fun v3 M n => k e M n)
def R10_13 : RegF := fun a e M n k => e.getK q5 fun v0 => v_add v0 (.i (.ofNat 1)) fun v1 => VV.onAny v1 (e.setK q5 v1 fun e => k e M n)
def R10_14 : RegF := fun a e M n k => e.getK q0 fun v0 => VV.onAny v0 (v_nck v0 fun v1 => v_fa v1 8 fun v2 => ldW M v2 1 false fun _ v3 => v_lenS v3 fun v4 => VV.onAny (.i (.ofNat 0)) (e.setK q16 v3 fun e => e.setK q14 v4 fun e => e.setK q4 (.i (.ofNat 0)) fun e => k e M n))
def R10_15 : RegF := fun a e M n k => e.getK q4 fun v0 => e.getK q14 fun v1 => v_lt v0 v1 fun v2 => e.setK q15 v2 fun e => k e M n
def R10_16 : RegF := fun a e M n k => e.getK q16 fun v0 => e.getK q4 fun v1 => v_ixS v0 v1 1 fun v2 => ldW M v2 1 false fun _ v3 => VV.onAny v3 (e.setK q17 v3 fun e => k e M n)
def R10_17 : RegF := fun a e M n k => e.getK q17 fun v0 => e.getK q0 fun v1 => VV.onAny v0 (VV.onAny v1 (v_nck v1 fun v2 => v_fa v2 1 fun v3 => ldW M v3 1 false fun _ v4 => callV a s21 [v0, v4] M n fun v5 M n => k e M n))
def R10_18 : RegF := fun a e M n k => e.getK q4 fun v0 => v_add v0 (.i (.ofNat 1)) fun v1 => VV.onAny v1 (e.setK q4 v1 fun e => k e M n)
def R10_19 : RegF := fun a e M n k => e.getK q0 fun v0 => VV.onAny v0 (v_nck v0 fun v1 => v_fa v1 1 fun v2 => ldW M v2 1 false fun _ v3 => v_lt (.i (.ofNat 0)) v3 fun v4 => e.setK q7 v4 fun e => k e M n)
def R10_20 : RegF := fun a e M n k => e.getK q0 fun v0 => VV.onAny v0 (v_nck v0 fun v1 => v_fa v1 7 fun v2 => ldW M v2 1 false fun _ v3 => callV a s19 [v3] M n fun v4 M n => VV.onAny v4 (v_ext v4 0 fun v5 => v_ext v4 1 fun v6 => VV.onAny v5 (VV.onAny v6 (e.setK q8 v5 fun e => k e M n))))
def R10_21 : RegF := fun a e M n k => e.getK q0 fun v0 => VV.onAny v0 (v_mkf s20 [v0] [] fun v1 => VV.onAny v1 (e.setK q12 v1 fun e => k e M n))
def R10_22 : RegF := fun a e M n k => e.getK q8 fun v0 => VV.onAny v0 (v_lenS v0 fun v1 => VV.onAny (.i (.ofNat 0)) (e.setK q11 v0 fun e => e.setK q9 v1 fun e => e.setK q3 (.i (.ofNat 0)) fun e => k e M n))
def R10_23 : RegF := fun a e M n k => e.getK q3 fun v0 => e.getK q9 fun v1 => v_lt v0 v1 fun v2 => e.setK q10 v2 fun e => k e M n
def R10_24 : RegF := fun a e M n k => e.getK q11 fun v0 => e.getK q3 fun v1 => v_ixS v0 v1 1 fun v2 => ldW M v2 1 false fun _ v3 => VV.onAny v3 (e.setK q13 v3 fun e => k e M n)
def R10_25 : RegF := fun a e M n k => e.getK q12 fun v0 => e.getK q13 fun v1 => VV.onAny v0 (VV.onAny v1 (cvV a v0 [v1] M n fun v2 M n => k e M n))
def R10_26 : RegF := fun a e M n k => e.getK q3 fun v0 => v_add v0 (.i (.ofNat 1)) fun v1 => VV.onAny v1 (e.setK q3 v1 fun e => k e M n)
def R10_27 : RegF := fun a e M n k => e.getK q2 fun v0 => v_bld [(.i (.ofNat 0)), (.bool false)] [(0, 1, (.i (.negSucc 0)))] fun v1 => stV M v0 v1 2 fun M => k e M n
def S10 : List (P × I) := [(s0, q0), (s1, q1), (s4, q2), (s45, q3), (s58, q4), (s71, q5), (s23, q6), (s32, q7), (s5, q8), (s44, q9), (s46, q10), (s43, q11), (s7, q12), (s9, q13), (s57, q14), (s59, q15), (s56, q16), (s11, q17), (s70, q18), (s72, q19), (s69, q20), (s13, q21), (s92, q22), (s14, q23)]
def G10 : F2 := .mk (fun a e M n k => R10_0 a e M n fun e M n => R10_1 a e M n fun e M n => e.getK q6 fun v => v.onB fun c => Bool.rec (R10_2 a e M n fun e M n => (fun (j0 : En → Mem → P → Bool) => R10_19 a e M n fun e M n => (fun (j7 : En → Mem → P → Bool) => e.getK q7 fun v => v.onB fun c => Bool.rec (j7 e M n) (R10_20 a e M n fun e M n => R10_21 a e M n fun e M n => R10_22 a e M n fun e M n => (fun (j8 : En → Mem → P → Bool) => loopK (fun a e M n k => R10_23 a e M n fun e M n => e.getK q10 fun v => v.onB fun c => Bool.rec (k (.x 0) e M n) (R10_24 a e M n fun e M n => R10_25 a e M n fun e M n => R10_26 a e M n fun e M n => k .n e M n) c) a e M n fun ex e M n => Ex.rec (j8 e M n) (k .r e M n) (fun id => Bool.rec (k (.x id) e M n) (j8 e M n) (Nat.beq id 0)) ex) fun e M n => j7 e M n) c) fun e M n => j0 e M n) fun e M n => (fun (j1 : En → Mem → P → Bool) => R10_14 a e M n fun e M n => (fun (j6 : En → Mem → P → Bool) => loopK (fun a e M n k => R10_15 a e M n fun e M n => e.getK q15 fun v => v.onB fun c => Bool.rec (k (.x 2) e M n) (R10_16 a e M n fun e M n => R10_17 a e M n fun e M n => R10_18 a e M n fun e M n => k .n e M n) c) a e M n fun ex e M n => Ex.rec (j6 e M n) (k .r e M n) (fun id => Bool.rec (k (.x id) e M n) (j6 e M n) (Nat.beq id 2)) ex) fun e M n => j1 e M n) fun e M n => (fun (j2 : En → Mem → P → Bool) => R10_9 a e M n fun e M n => (fun (j5 : En → Mem → P → Bool) => loopK (fun a e M n k => R10_10 a e M n fun e M n => e.getK q19 fun v => v.onB fun c => Bool.rec (k (.x 4) e M n) (R10_11 a e M n fun e M n => R10_12 a e M n fun e M n => R10_13 a e M n fun e M n => k .n e M n) c) a e M n fun ex e M n => Ex.rec (j5 e M n) (k .r e M n) (fun id => Bool.rec (k (.x id) e M n) (j5 e M n) (Nat.beq id 4)) ex) fun e M n => j2 e M n) fun e M n => R10_3 a e M n fun e M n => (fun (j3 : En → Mem → P → Bool) => R10_7 a e M n fun e M n => (fun (j4 : En → Mem → P → Bool) => e.getK q22 fun v => v.onB fun c => Bool.rec (j4 e M n) (R10_8 a e M n fun e M n => j4 e M n) c) fun e M n => j3 e M n) fun e M n => R10_4 a e M n fun e M n => R10_5 a e M n fun e M n => R10_6 a e M n fun e M n => k .r e M n) (R10_27 a e M n fun e M n => k .r e M n) c) [.c q2 2 true] [q0, q1]
def R12_0 : RegF := fun a e M n k => alV 41 [(.i (.ofNat 0)), (.i (.ofNat 0)), (.i (.ofNat 0))] M n fun v0 M n => e.setK q2 v0 fun e => k e M n
def R12_1 : RegF := fun a e M n k => e.getK q0 fun v0 => e.getK q1 fun v1 => e.getK q2 fun v2 => VV.onAny v0 (VV.onAny v1 (v_bld [(.i (.ofNat 0)), (.i (.ofNat 0)), (.i (.ofNat 0))] [(0, 1, v0), (1, 1, (.i (.negSucc 0))), (2, 1, v1)] fun v3 => stV M v2 v3 3 fun M => k e M n))
def S12 : List (P × I) := [(s0, q0), (s1, q1), (s4, q2)]
def G12 : F2 := .mk (fun a e M n k => R12_0 a e M n fun e M n => R12_1 a e M n fun e M n => k .r e M n) [.c q2 3 true] [q0, q1]
def R14_0 : RegF := fun a e M n k => alV 47 [(.i (.ofNat 0)), .nils, .nils, .nils, .nils] M n fun v0 M n => e.setK q1 v0 fun e => k e M n
def R14_1 : RegF := fun a e M n k => e.getK q0 fun v0 => VV.onAny v0 (v_nqP false v0 fun v1 => e.setK q6 v1 fun e => k e M n)
def R14_2 : RegF := fun a e M n k => e.getK q0 fun v0 => (fun M0 => VV.onAny v0 (v_nck v0 fun v1 => v_fa v1 1 fun v2 => ldV M v2 1 false fun bv3 v3 => VV.onAny v0 (v_nck v0 fun v4 => v_fa v4 5 fun v5 => ldW M v5 1 false fun _ v6 => callV a s28 [v6] M n fun v7 M n => VV.onAny v0 (v_nck v0 fun v8 => v_fa v8 9 fun v9 => ldV M v9 1 false fun bv10 v10 => callV a s29 [v10] M n fun v11 M n => v_bld [(.i (.ofNat 0)), .nils, .nils, .nils, .nils] [(0, 1, v3), (2, 1, v7), (4, 1, v11)] fun v12 => alV 47 [(.i (.ofNat 0)), .nils, .nils, .nils, .nils] M n fun v13 M n => Bool.rec false (stV M v13 v12 5 fun M => e.setK q3 v13 fun e => k e M n) (keptB M0 M (bv10 :: (bv3 :: []))))))) M
def R14_3 : RegF := fun a e M n k => e.getK q3 fun v0 => e.getK q1 fun v1 => ldW M v0 5 true fun _ v2 => stV M v1 v2 5 fun M => k e M n
def R14_4 : RegF := fun a e M n k => e.getK q0 fun v0 => VV.onAny v0 (v_nck v0 fun v1 => v_fa v1 8 fun v2 => ldW M v2 1 false fun _ v3 => v_lenS v3 fun v4 => VV.onAny (.i (.ofNat 0)) (e.setK q13 v3 fun e => e.setK q11 v4 fun e => e.setK q4 (.i (.ofNat 0)) fun e => k e M n))
def R14_5 : RegF := fun a e M n k => e.getK q4 fun v0 => e.getK q11 fun v1 => v_lt v0 v1 fun v2 => e.setK q12 v2 fun e => k e M n
def R14_6 : RegF := fun a e M n k => e.getK q13 fun v0 => e.getK q4 fun v1 => v_ixS v0 v1 1 fun v2 => ldW M v2 1 false fun _ v3 => VV.onAny v3 (e.setK q14 v3 fun e => k e M n)
def R14_7 : RegF := fun a e M n k => e.getK q14 fun v0 => VV.onAny v0 (callV a s31 [v0] M n fun v1 M n => VV.onAny v1 (v_ext v1 0 fun v2 => v_ext v1 1 fun v3 => VV.onAny v2 (VV.onAny v3 (e.setK q15 v3 fun e => k e M n))))
def R14_8 : RegF := fun a e M n k => e.getK q3 fun v0 => e.getK q15 fun v1 => v_fa v0 3 fun v2 => ldW M v2 1 false fun _ v3 => VV.onAny v1 (bslV 4 1 1 [(.bool false)] [(0, 1, v1)] M n fun v4 M n => appV 4 1 1 v3 v4 M n fun v5 M n => v_fa v0 3 fun v6 => stV M v6 v5 1 fun M => k e M n)
def R14_9 : RegF := fun a e M n k => e.getK q4 fun v0 => v_add v0 (.i (.ofNat 1)) fun v1 => VV.onAny v1 (e.setK q4 v1 fun e => k e M n)
def R14_10 : RegF := fun a e M n k => e.getK q0 fun v0 => VV.onAny v0 (v_nck v0 fun v1 => v_fa v1 2 fun v2 => ldW M v2 1 false fun _ v3 => v_lenS v3 fun v4 => VV.onAny (.i (.ofNat 0)) (e.setK q9 v3 fun e => e.setK q7 v4 fun e => e.setK q2 (.i (.ofNat 0)) fun e => k e M n))
def R14_11 : RegF := fun a e M n k => e.getK q2 fun v0 => e.getK q7 fun v1 => v_lt v0 v1 fun v2 => e.setK q8 v2 fun e => k e M n
def R14_12 : RegF := fun a e M n k => e.getK q2 fun v0 => e.getK q9 fun v1 => VV.onAny v0 (v_ixS v1 v0 21 fun v2 => ldW M v2 21 true fun _ v3 => alV 102 (rep 9 (.i (.ofNat 0)) ++ [(.bool false), (.i (.ofNat 0)), (.i (.ofNat 0)), (.i (.ofNat 0)), (.str []), (.bool false), (.i (.ofNat 0)), (.i (.ofNat 0)), (.i (.ofNat 0)), (.i (.ofNat 0)), (.i (.ofNat 0)), .nils]) M n fun v4 M n => VV.onAny v0 (stV M v4 v3 21 fun M => e.setK q5 v4 fun e => e.setK q10 v0 fun e => k e M n))
def R14_13 : RegF := fun a e M n k => e.getK q0 fun v0 => e.getK q10 fun v1 => e.getK q5 fun v2 => VV.onAny v0 (v_nck v0 fun v3 => v_fa v3 5 fun v4 => ldW M v4 1 false fun _ v5 => VV.onAny v1 (callV a s30 [v5, v1] M n fun v6 M n => v_fa v2 20 fun v7 => stV M v7 v6 1 fun M => k e M n))
def R14_14 : RegF := fun a e M n k => e.getK q3 fun v0 => e.getK q5 fun v1 => v_fa v0 1 fun v2 => ldW M v2 1 false fun _ v3 => ldW M v1 21 true fun _ v4 => bslV 102 21 1 (rep 9 (.i (.ofNat 0)) ++ [(.bool false), (.i (.ofNat 0)), (.i (.ofNat 0)), (.i (.ofNat 0)), (.str []), (.bool false), (.i (.ofNat 0)), (.i (.ofNat 0)), (.i (.ofNat 0)), (.i (.ofNat 0)), (.i (.ofNat 0)), .nils]) [(0, 21, v4)] M n fun v5 M n => appV 102 21 192 v3 v5 M n fun v6 M n => v_fa v0 1 fun v7 => stV M v7 v6 1 fun M => k e M n
def R14_15 : RegF := fun a e M n k => e.getK q2 fun v0 => v_add v0 (.i (.ofNat 1)) fun v1 => VV.onAny v1 (e.setK q2 v1 fun e => k e M n)
def R14_16 : RegF := fun a e M n k => e.getK q1 fun v0 => v_bld [(.i (.ofNat 0)), .nils, .nils, .nils, .nils] [] fun v1 => stV M v0 v1 5 fun M => k e M n
def S14 : List (P × I) := [(s0, q0), (s2, q1), (s33, q2), (s3, q3), (s57, q4), (s5, q5), (s11, q6), (s32, q7), (s34, q8), (s31, q9), (s4, q10), (s56, q11), (s58, q12), (s55, q13), (s7, q14), (s9, q15)]
def G14 : F2 := .mk (fun a e M n k => R14_0 a e M n fun e M n => R14_1 a e M n fun e M n => e.getK q6 fun v => v.onB fun c => Bool.rec (R14_2 a e M n fun e M n => (fun (j0 : En → Mem → P → Bool) => R14_10 a e M n fun e M n => (fun (j3 : En → Mem → P → Bool) => loopK (fun a e M n k => R14_11 a e M n fun e M n => e.getK q8 fun v => v.onB fun c => Bool.rec (k (.x 0) e M n) (R14_12 a e M n fun e M n => R14_13 a e M n fun e M n => R14_14 a e M n fun e M n => R14_15 a e M n fun e M n => k .n e M n) c) a e M n fun ex e M n => Ex.rec (j3 e M n) (k .r e M n) (fun id => Bool.rec (k (.x id) e M n) (j3 e M n) (Nat.beq id 0)) ex) fun e M n => j0 e M n) fun e M n => (fun (j1 : En → Mem → P → Bool) => R14_4 a e M n fun e M n => (fun (j2 : En → Mem → P → Bool) => loopK (fun a e M n k => R14_5 a e M n fun e M n => e.getK q12 fun v => v.onB fun c => Bool.rec (k (.x 2) e M n) (R14_6 a e M n fun e M n => R14_7 a e M n fun e M n => R14_8 a e M n fun e M n => R14_9 a e M n fun e M n => k .n e M n) c) a e M n fun ex e M n => Ex.rec (j2 e M n) (k .r e M n) (fun id => Bool.rec (k (.x id) e M n) (j2 e M n) (Nat.beq id 2)) ex) fun e M n => j1 e M n) fun e M n => R14_3 a e M n fun e M n => k .r e M n) (R14_16 a e M n fun e M n => k .r e M n) c) [.c q1 5 true] [q0]
def R15_0 : RegF := fun a e M n k => VV.onAny (.nils) (e.setK q2 (.nils) fun e => k e M n)
def R15_1 : RegF := fun a e M n k => e.getK q0 fun v0 => VV.onAny v0 (v_nqP false v0 fun v1 => e.setK q1 v1 fun e => k e M n)
def R15_2 : RegF := fun a e M n k => e.getK q0 fun v0 => VV.onAny v0 (v_nck v0 fun v1 => v_fa v1 12 fun v2 => ldW M v2 1 false fun _ v3 => callV a s32 [v3] M n fun v4 M n => VV.onAny v4 (e.setK q2 v4 fun e => k e M n))
def R15_3 : RegF := fun a e M n k => VV.onAny (.nils) (e.setK q2 (.nils) fun e => k e M n)
def S15 : List (P × I) := [(s0, q0), (s4, q1), (s2, q2)]
def G15 : F2 := .mk (fun a e M n k => R15_0 a e M n fun e M n => R15_1 a e M n fun e M n => e.getK q1 fun v => v.onB fun c => Bool.rec (R15_2 a e M n fun e M n => k .r e M n) (R15_3 a e M n fun e M n => k .r e M n) c) [.t q2] [q0]
def R16_0 : RegF := fun a e M n k => VV.onAny (.bool false) (e.setK q4 (.bool false) fun e => k e M n)
def R16_1 : RegF := fun a e M n k => callV a s34 [] M n fun v0 M n => v_bld [(.i (.ofNat 0)), (.i (.ofNat 0)), (.i (.ofNat 0))] [(0, 1, (.i (.ofNat 2))), (1, 1, (.i (.negSucc 0)))] fun v1 => bslV 41 3 1 [(.i (.ofNat 0)), (.i (.ofNat 0)), (.i (.ofNat 0))] [(0, 3, v1)] M n fun v2 M n => callV a s33 [v0, v2, (.i (.ofNat 8))] M n fun v3 M n => VV.onAny v3 (v_ext v3 0 fun v4 => v_ext v3 1 fun v5 => v_ext v3 2 fun v6 => v_ext v3 3 fun v7 => VV.onAny v4 (VV.onAny v5 (VV.onAny v6 (VV.onAny v7 (e.setK q2 v4 fun e => e.setK q0 v5 fun e => e.setK q1 v7 fun e => k e M n)))))
def R16_2 : RegF := fun a e M n k => e.getK q1 fun v0 => e.getK q2 fun v1 => e.getK q0 fun v2 => VV.onAny v0 (v_ne v0 (.i (.ofNat 0)) fun v3 => VV.onAny v3 (gdK v3 false .off M n (fun j => v_mv v1 fun v => j v M n) fun v4 M n => gdK v3 false .off M n (fun j => v_bld [(.i (.ofNat 0)), (.bool false)] [(0, 1, (.i (.ofNat 1)))] fun v => j v M n) fun v5 M n => gdK v3 false .off M n (fun j => v_bld [(.i (.ofNat 0)), (.bool false)] [(0, 1, (.i (.ofNat 1)))] fun v => j v M n) fun v6 M n => gdK v3 false .off M n (fun j => v_bld [(.i (.ofNat 0)), (.bool false)] [(0, 1, (.i (.ofNat 1)))] fun v => j v M n) fun v7 M n => gdK v3 false .off M n (fun j => v_bld [(.i (.ofNat 0)), (.bool false)] [(0, 1, (.i (.ofNat 1)))] fun v => j v M n) fun v8 M n => gdK v3 false .off M n (fun j => v_bld [(.i (.ofNat 0)), (.bool false)] [(0, 1, (.i (.ofNat 1)))] fun v => j v M n) fun v9 M n => gdK v3 false .off M n (fun j => v_bld [(.i (.ofNat 0)), (.bool false)] [] fun v => j v M n) fun v10 M n => gdK v3 false .off M n (fun j => v_bld [(.i (.ofNat 0)), (.bool false)] [] fun v => j v M n) fun v11 M n => gdK v3 false .off M n (fun j => v_bld [(.i (.ofNat 0)), (.bool false)] [] fun v => j v M n) fun v12 M n => gdK v3 false .no M n (fun j => bslV 36 2 8 ([(.i (.ofNat 0)), (.bool false), (.i (.ofNat 0)), (.bool false), (.i (.ofNat 0)), (.bool false), (.i (.ofNat 0)), (.bool false), (.i (.ofNat 0)), (.bool false), (.i (.ofNat 0)), (.bool false), (.i (.ofNat 0)), (.bool false), (.i (.ofNat 0)), (.bool false)]) [(0, 2, v5), (2, 2, v6), (4, 2, v7), (6, 2, v8), (8, 2, v9), (10, 2, v10), (12, 2, v11), (14, 2, v12)] M n fun v M n => j v M n) fun v13 M n => gdK v3 false .no M n (fun j => callV a s35 [v4, v13] M n fun v M n => j v M n) fun v14 M n => gdK v3 false .off M n (fun j => v_not v14 fun v => j v M n) fun v15 M n => v_pick v3 (.bool true) v15 fun v16 => VV.onAny v16 (gdK v16 false .off M n (fun j => v_mv v2 fun v => j v M n) fun v17 M n => gdK v16 false .off M n (fun j => v_lenS v17 fun v => j v M n) fun v18 M n => gdK v16 false .off M n (fun j => v_ne v18 (.i (.ofNat 1)) fun v => j v M n) fun v19 M n => v_pick v16 (.bool true) v19 fun v20 => e.setK q3 v20 fun e => k e M n)))
def R16_3 : RegF := fun a e M n k => e.getK q0 fun v0 => VV.onAny v0 (v_ixS v0 (.i (.ofNat 0)) 6 fun v1 => ldW M v1 6 true fun _ v2 => callV a s36 [v2] M n fun v3 M n => v_not v3 fun v4 => VV.onAny v4 (gdK v4 true .off M n (fun j => v_mv v0 fun v => j v M n) fun v5 M n => gdK v4 true .off M n (fun j => v_ixS v5 (.i (.ofNat 0)) 6 fun v => j v M n) fun v6 M n => gdK v4 true .off M n (fun j => v_fa v6 3 fun v => j v M n) fun v7 M n => gdK v4 true .off M n (fun j => ldW M v7 1 false fun _ v => j v M n) fun v8 M n => gdK v4 true .off M n (fun j => v_eq v8 (.i (.ofNat 8)) fun v => j v M n) fun v9 M n => v_pick v4 v9 (.bool false) fun v10 => VV.onAny v10 (gdK v10 true .off M n (fun j => v_bld [(.i (.ofNat 0)), .nils, .nils, .nils, .nils] [] fun v => j v M n) fun v11 M n => gdK v10 true .no M n (fun j => callV a s37 [v11] M n fun v M n => j v M n) fun v12 M n => v_pick v10 v12 (.bool false) fun v13 => VV.onAny v13 (e.setK q4 v13 fun e => k e M n))))
def R16_4 : RegF := fun a e M n k => VV.onAny (.bool false) (e.setK q4 (.bool false) fun e => k e M n)
def S16 : List (P × I) := [(s2, q0), (s4, q1), (s1, q2), (s34, q3), (s0, q4)]
def G16 : F2 := .mk (fun a e M n k => R16_0 a e M n fun e M n => R16_1 a e M n fun e M n => R16_2 a e M n fun e M n => e.getK q3 fun v => v.onB fun c => Bool.rec (R16_3 a e M n fun e M n => k .r e M n) (R16_4 a e M n fun e M n => k .r e M n) c) [.t q4] []
def R17_0 : RegF := fun a e M n k => e.getK q0 fun v0 => bxV 28 v0 M n fun v1 M n => alV 57 [.nils, .nils, .nils, (.i (.ofNat 0))] M n fun v2 M n => e.setK q4 v1 fun e => e.setK q3 v2 fun e => k e M n
def R17_1 : RegF := fun a e M n k => e.getK q4 fun v0 => e.getK q1 fun v1 => e.getK q2 fun v2 => ldW M v0 6 true fun _ v3 => VV.onAny v1 (VV.onAny v2 (callV a s33 [v3, v1, v2] M n fun v4 M n => VV.onAny v4 (v_ext v4 0 fun v5 => v_ext v4 1 fun v6 => v_ext v4 2 fun v7 => v_ext v4 3 fun v8 => VV.onAny v5 (VV.onAny v6 (VV.onAny v7 (VV.onAny v8 (e.setK q5 v5 fun e => e.setK q6 v6 fun e => e.setK q7 v7 fun e => e.setK q8 v8 fun e => k e M n)))))))
def R17_2 : RegF := fun a e M n k => e.getK q5 fun v0 => e.getK q6 fun v1 => e.getK q7 fun v2 => e.getK q8 fun v3 => e.getK q3 fun v4 => VV.onAny v0 (VV.onAny v1 (VV.onAny v2 (VV.onAny v3 (v_bld [.nils, .nils, .nils, (.i (.ofNat 0))] [(0, 1, v0), (1, 1, v1), (2, 1, v2), (3, 1, v3)] fun v5 => stV M v4 v5 4 fun M => k e M n))))
def S17 : List (P × I) := [(s0, q0), (s1, q1), (s2, q2), (s6, q3), (s3, q4), (s7, q5), (s8, q6), (s9, q7), (s10, q8)]
def G17 : F2 := .mk (fun a e M n k => R17_0 a e M n fun e M n => R17_1 a e M n fun e M n => R17_2 a e M n fun e M n => k .r e M n) [.c q3 4 true] [q0, q1, q2]
def R18_0 : RegF := fun a e M n k => e.getK q0 fun v0 => bxV 28 v0 M n fun v1 M n => VV.onAny (.nil) (VV.onAny (.i (.ofNat 0)) (e.setK q2 v1 fun e => e.setK q26 (.nil) fun e => e.setK q27 (.i (.ofNat 0)) fun e => k e M n))
def R18_1 : RegF := fun a e M n k => e.getK q2 fun v0 => ldW M v0 6 true fun _ v1 => callV a s38 [v1] M n fun v2 M n => v_not v2 fun v3 => e.setK q8 v3 fun e => k e M n
def R18_2 : RegF := fun a e M n k => v_bld ([.nils, (.i (.ofNat 0)), .nils, .nils, .nil, .nil, .nil, .nil, .nils, .nil, .nil, .nils, .nils, (.i (.ofNat 0)), .nils, .nils, .nils, .nils, (.i (.ofNat 0)), (.i (.ofNat 0)), (.i (.ofNat 0)), (.bool false)] ++ rep 8 (.i (.ofNat 0))) [] fun v0 => bxV 89 v0 M n fun v1 M n => VV.onAny v1 (e.setK q1 v1 fun e => k e M n)
def R18_3 : RegF := fun a e M n k => e.getK q1 fun v0 => e.getK q2 fun v1 => VV.onAny v0 (v_fa v1 2 fun v2 => ldW M v2 1 false fun _ v3 => callV a s44 [v3] M n fun v4 M n => VV.onAny v4 (v_ext v4 0 fun v5 => v_ext v4 1 fun v6 => v_nck v0 fun v7 => v_fa v7 4 fun v8 => stV M v8 v5 1 fun M => k e M n))
def R18_4 : RegF := fun a e M n k => e.getK q1 fun v0 => VV.onAny v0 (VV.onAny v0 (v_nck v0 fun v1 => v_fa v1 4 fun v2 => ldW M v2 1 false fun _ v3 => callV a s45 [v3] M n fun v4 M n => v_nck v0 fun v5 => v_fa v5 5 fun v6 => stV M v6 v4 1 fun M => k e M n))
def R18_5 : RegF := fun a e M n k => e.getK q1 fun v0 => VV.onAny v0 (callV a s46 [(.i (.ofNat 4))] M n fun v1 M n => VV.onAny v1 (v_ext v1 0 fun v2 => v_ext v1 1 fun v3 => v_nck v0 fun v4 => v_fa v4 6 fun v5 => stV M v5 v2 1 fun M => k e M n))
def R18_6 : RegF := fun a e M n k => e.getK q1 fun v0 => VV.onAny v0 (callV a s47 [(.i (.ofNat 0))] M n fun v1 M n => VV.onAny v1 (v_ext v1 0 fun v2 => v_ext v1 1 fun v3 => v_nck v0 fun v4 => v_fa v4 7 fun v5 => stV M v5 v2 1 fun M => k e M n))
def R18_7 : RegF := fun a e M n k => e.getK q1 fun v0 => e.getK q2 fun v1 => VV.onAny v0 (v_fa v1 5 fun v2 => ldW M v2 1 false fun _ v3 => callV a s49 [v3] M n fun v4 M n => VV.onAny v4 (v_ext v4 0 fun v5 => v_ext v4 1 fun v6 => v_nck v0 fun v7 => v_fa v7 9 fun v8 => stV M v8 v5 1 fun M => k e M n))
def R18_8 : RegF := fun a e M n k => e.getK q1 fun v0 => e.getK q2 fun v1 => VV.onAny v0 (v_fa v1 4 fun v2 => ldW M v2 1 false fun _ v3 => callV a s50 [v3] M n fun v4 M n => VV.onAny v4 (v_ext v4 0 fun v5 => v_ext v4 1 fun v6 => v_nck v0 fun v7 => v_fa v7 10 fun v8 => stV M v8 v5 1 fun M => k e M n))
def R18_9 : RegF := fun a e M n k => e.getK q1 fun v0 => VV.onAny v0 (VV.onAny v0 (VV.onAny (.i (.ofNat 0)) (e.setK q26 v0 fun e => e.setK q27 (.i (.ofNat 0)) fun e => k e M n)))
def R18_10 : RegF := fun a e M n k => e.getK q1 fun v0 => VV.onAny v0 (v_nck v0 fun v1 => v_fa v1 2 fun v2 => ldW M v2 1 false fun _ v3 => v_lenS v3 fun v4 => VV.onAny (.i (.ofNat 0)) (e.setK q23 v4 fun e => e.setK q7 (.i (.ofNat 0)) fun e => k e M n))
def R18_11 : RegF := fun a e M n k => e.getK q7 fun v0 => e.getK q23 fun v1 => v_lt v0 v1 fun v2 => e.setK q24 v2 fun e => k e M n
def R18_12 : RegF := fun a e M n k => e.getK q7 fun v0 => VV.onAny v0 (VV.onAny v0 (e.setK q25 v0 fun e => k e M n))
def R18_13 : RegF := fun a e M n k => e.getK q1 fun v0 => e.getK q25 fun v1 => VV.onAny v0 (v_nck v0 fun v2 => v_fa v2 10 fun v3 => ldW M v3 1 false fun _ v4 => VV.onAny v1 (callV a s51 [v4, v1] M n fun v5 M n => k e M n))
def R18_14 : RegF := fun a e M n k => e.getK q7 fun v0 => v_add v0 (.i (.ofNat 1)) fun v1 => VV.onAny v1 (e.setK q7 v1 fun e => k e M n)
def R18_15 : RegF := fun a e M n k => e.getK q2 fun v0 => v_fa v0 3 fun v1 => ldW M v1 1 false fun _ v2 => v_lenS v2 fun v3 => VV.onAny (.i (.ofNat 0)) (e.setK q20 v2 fun e => e.setK q18 v3 fun e => e.setK q6 (.i (.ofNat 0)) fun e => k e M n)
def R18_16 : RegF := fun a e M n k => e.getK q6 fun v0 => e.getK q18 fun v1 => v_lt v0 v1 fun v2 => e.setK q19 v2 fun e => k e M n
def R18_17 : RegF := fun a e M n k => e.getK q20 fun v0 => e.getK q6 fun v1 => v_ixS v0 v1 1 fun v2 => ldW M v2 1 false fun _ v3 => VV.onAny v3 (e.setK q21 v3 fun e => k e M n)
def R18_18 : RegF := fun a e M n k => e.getK q21 fun v0 => VV.onAny v0 (callV a s48 [v0] M n fun v1 M n => VV.onAny v1 (v_ext v1 0 fun v2 => v_ext v1 1 fun v3 => VV.onAny v2 (VV.onAny v3 (e.setK q22 v2 fun e => k e M n))))
def R18_19 : RegF := fun a e M n k => e.getK q1 fun v0 => e.getK q22 fun v1 => VV.onAny v0 (VV.onAny v0 (v_nck v0 fun v2 => v_fa v2 8 fun v3 => ldW M v3 1 false fun _ v4 => VV.onAny v1 (bslV 93 1 1 [.nil] [(0, 1, v1)] M n fun v5 M n => appV 93 1 8 v4 v5 M n fun v6 M n => v_nck v0 fun v7 => v_fa v7 8 fun v8 => stV M v8 v6 1 fun M => k e M n)))
def R18_20 : RegF := fun a e M n k => e.getK q6 fun v0 => v_add v0 (.i (.ofNat 1)) fun v1 => VV.onAny v1 (e.setK q6 v1 fun e => k e M n)
def R18_21 : RegF := fun a e M n k => e.getK q2 fun v0 => v_fa v0 1 fun v1 => ldW M v1 1 false fun _ v2 => v_lenS v2 fun v3 => VV.onAny (.i (.ofNat 0)) (e.setK q15 v2 fun e => e.setK q13 v3 fun e => e.setK q5 (.i (.ofNat 0)) fun e => k e M n)
def R18_22 : RegF := fun a e M n k => e.getK q5 fun v0 => e.getK q13 fun v1 => v_lt v0 v1 fun v2 => e.setK q14 v2 fun e => k e M n
def R18_23 : RegF := fun a e M n k => e.getK q5 fun v0 => e.getK q15 fun v1 => VV.onAny v0 (v_ixS v1 v0 2 fun v2 => ldW M v2 2 true fun _ v3 => alV 68 [(.i (.ofNat 0)), .nils] M n fun v4 M n => VV.onAny v0 (stV M v4 v3 2 fun M => e.setK q17 v4 fun e => e.setK q16 v0 fun e => k e M n))
def R18_24 : RegF := fun a e M n k => e.getK q1 fun v0 => e.getK q2 fun v1 => e.getK q16 fun v2 => e.getK q17 fun v3 => (fun M0 => VV.onAny v0 (v_fa v1 0 fun v4 => ldW M v4 1 false fun _ v5 => v_lenS v5 fun v6 => VV.onAny v2 (v_add v6 v2 fun v7 => ldW M v3 2 true fun _ v8 => callV a s43 [v7, v8] M n fun v9 M n => v_fa v3 1 fun v10 => ldV M v10 1 false fun bv11 v11 => callV a s42 [v11] M n fun v12 M n => callV a s40 [v0, v9, v12] M n fun v13 M n => Bool.rec false (k e M n) (keptB M0 M (bv11 :: []))))) M
def R18_25 : RegF := fun a e M n k => e.getK q5 fun v0 => v_add v0 (.i (.ofNat 1)) fun v1 => VV.onAny v1 (e.setK q5 v1 fun e => k e M n)
def R18_26 : RegF := fun a e M n k => e.getK q2 fun v0 => v_fa v0 0 fun v1 => ldW M v1 1 false fun _ v2 => v_lenS v2 fun v3 => VV.onAny (.i (.ofNat 0)) (e.setK q11 v2 fun e => e.setK q9 v3 fun e => e.setK q3 (.i (.ofNat 0)) fun e => k e M n)
def R18_27 : RegF := fun a e M n k => e.getK q3 fun v0 => e.getK q9 fun v1 => v_lt v0 v1 fun v2 => e.setK q10 v2 fun e => k e M n
def R18_28 : RegF := fun a e M n k => e.getK q3 fun v0 => e.getK q11 fun v1 => VV.onAny v0 (v_ixS v1 v0 8 fun v2 => ldW M v2 8 true fun _ v3 => alV 32 [(.i (.ofNat 0)), (.i (.ofNat 0)), (.i (.ofNat 0)), (.i (.ofNat 0)), (.i (.ofNat 0)), (.i (.ofNat 0)), .nils, .nils] M n fun v4 M n => VV.onAny v0 (stV M v4 v3 8 fun M => e.setK q4 v4 fun e => e.setK q12 v0 fun e => k e M n))
def R18_29 : RegF := fun a e M n k => e.getK q4 fun v0 => v_fa v0 6 fun v1 => ldW M v1 1 false fun _ v2 => callV a s39 [v2] M n fun v3 M n => v_fa v0 6 fun v4 => stV M v4 v3 1 fun M => k e M n
def R18_30 : RegF := fun a e M n k => e.getK q1 fun v0 => e.getK q4 fun v1 => (fun M0 => VV.onAny v0 (VV.onAny v0 (v_nck v0 fun v2 => v_fa v2 0 fun v3 => ldW M v3 1 false fun _ v4 => ldW M v1 8 true fun _ v5 => bslV 32 8 1 [(.i (.ofNat 0)), (.i (.ofNat 0)), (.i (.ofNat 0)), (.i (.ofNat 0)), (.i (.ofNat 0)), (.i (.ofNat 0)), .nils, .nils] [(0, 8, v5)] M n fun v6 M n => appV 32 8 96 v4 v6 M n fun v7 M n => v_nck v0 fun v8 => v_fa v8 0 fun v9 => Bool.rec false (stV M v9 v7 1 fun M => k e M n) (keptB M0 M [])))) M
def R18_31 : RegF := fun a e M n k => e.getK q1 fun v0 => e.getK q12 fun v1 => e.getK q4 fun v2 => (fun M0 => VV.onAny v0 (VV.onAny v1 (ldW M v2 8 true fun _ v3 => callV a s41 [v1, v3] M n fun v4 M n => v_fa v2 7 fun v5 => ldV M v5 1 false fun bv6 v6 => callV a s42 [v6] M n fun v7 M n => callV a s40 [v0, v4, v7] M n fun v8 M n => Bool.rec false (k e M n) (keptB M0 M (bv6 :: []))))) M
def R18_32 : RegF := fun a e M n k => e.getK q3 fun v0 => v_add v0 (.i (.ofNat 1)) fun v1 => VV.onAny v1 (e.setK q3 v1 fun e => k e M n)
def R18_33 : RegF := fun a e M n k => VV.onAny (.nil) (VV.onAny (.i (.ofNat 2)) (e.setK q26 (.nil) fun e => e.setK q27 (.i (.ofNat 2)) fun e => k e M n))
def S18 : List (P × I) := [(s0, q0), (s4, q1), (s1, q2), (s22, q3), (s6, q4), (s53, q5), (s105, q6), (s148, q7), (s16, q8), (s21, q9), (s23, q10), (s20, q11), (s5, q12), (s52, q13), (s54, q14), (s51, q15), (s7, q16), (s8, q17), (s104, q18), (s106, q19), (s103, q20), (s10, q21), (s11, q22), (s147, q23), (s149, q24), (s13, q25), (s2, q26), (s3, q27)]
def G18 : F2 := .mk (fun a e M n k => R18_0 a e M n fun e M n => R18_1 a e M n fun e M n => e.getK q8 fun v => v.onB fun c => Bool.rec (R18_2 a e M n fun e M n => (fun (j0 : En → Mem → P → Bool) => R18_26 a e M n fun e M n => (fun (j7 : En → Mem → P → Bool) => loopK (fun a e M n k => R18_27 a e M n fun e M n => e.getK q10 fun v => v.onB fun c => Bool.rec (k (.x 0) e M n) (R18_28 a e M n fun e M n => R18_29 a e M n fun e M n => R18_30 a e M n fun e M n => R18_31 a e M n fun e M n => R18_32 a e M n fun e M n => k .n e M n) c) a e M n fun ex e M n => Ex.rec (j7 e M n) (k .r e M n) (fun id => Bool.rec (k (.x id) e M n) (j7 e M n) (Nat.beq id 0)) ex) fun e M n => j0 e M n) fun e M n => (fun (j1 : En → Mem → P → Bool) => R18_21 a e M n fun e M n => (fun (j6 : En → Mem → P → Bool) => loopK (fun a e M n k => R18_22 a e M n fun e M n => e.getK q14 fun v => v.onB fun c => Bool.rec (k (.x 2) e M n) (R18_23 a e M n fun e M n => R18_24 a e M n fun e M n => R18_25 a e M n fun e M n => k .n e M n) c) a e M n fun ex e M n => Ex.rec (j6 e M n) (k .r e M n) (fun id => Bool.rec (k (.x id) e M n) (j6 e M n) (Nat.beq id 2)) ex) fun e M n => j1 e M n) fun e M n => R18_3 a e M n fun e M n => R18_4 a e M n fun e M n => R18_5 a e M n fun e M n => R18_6 a e M n fun e M n => (fun (j2 : En → Mem → P → Bool) => R18_15 a e M n fun e M n => (fun (j5 : En → Mem → P → Bool) => loopK (fun a e M n k => R18_16 a e M n fun e M n => e.getK q19 fun v => v.onB fun c => Bool.rec (k (.x 4) e M n) (R18_17 a e M n fun e M n => R18_18 a e M n fun e M n => R18_19 a e M n fun e M n => R18_20 a e M n fun e M n => k .n e M n) c) a e M n fun ex e M n => Ex.rec (j5 e M n) (k .r e M n) (fun id => Bool.rec (k (.x id) e M n) (j5 e M n) (Nat.beq id 4)) ex) fun e M n => j2 e M n) fun e M n => R18_7 a e M n fun e M n => R18_8 a e M n fun e M n => (fun (j3 : En → Mem → P → Bool) => R18_10 a e M n fun e M n => (fun (j4 : En → Mem → P → Bool) => loopK (fun a e M n k => R18_11 a e M n fun e M n => e.getK q24 fun v => v.onB fun c => Bool.rec (k (.x 6) e M n) (R18_12 a e M n fun e M n => R18_13 a e M n fun e M n => R18_14 a e M n fun e M n => k .n e M n) c) a e M n fun ex e M n => Ex.rec (j4 e M n) (k .r e M n) (fun id => Bool.rec (k (.x id) e M n) (j4 e M n) (Nat.beq id 6)) ex) fun e M n => j3 e M n) fun e M n => R18_9 a e M n fun e M n => k .r e M n) (R18_33 a e M n fun e M n => k .r e M n) c) [.t q26, .t q27] [q0]
def R19_0 : RegF := fun a e M n k => VV.onAny (.nils) (VV.onAny (.i (.ofNat 0)) (e.setK q17 (.nils) fun e => e.setK q18 (.i (.ofNat 0)) fun e => k e M n))
def R19_1 : RegF := fun a e M n k => e.getK q0 fun v0 => VV.onAny v0 (v_nqP false v0 fun v1 => VV.onAny v1 (gdK v1 false .off M n (fun j => v_mv v0 fun v => j v M n) fun v2 M n => gdK v1 false .off M n (fun j => v_nck v2 fun v => j v M n) fun v3 M n => gdK v1 false .off M n (fun j => v_fa v3 0 fun v => j v M n) fun v4 M n => gdK v1 false .off M n (fun j => ldW M v4 1 false fun _ v => j v M n) fun v5 M n => gdK v1 false .off M n (fun j => v_eq v5 (.i (.ofNat 16777215)) fun v => j v M n) fun v6 M n => v_pick v1 (.bool true) v6 fun v7 => e.setK q7 v7 fun e => k e M n))
def R19_2 : RegF := fun a e M n k => e.getK q0 fun v0 => VV.onAny v0 (v_nck v0 fun v1 => v_fa v1 0 fun v2 => ldW M v2 1 false fun _ v3 => v_add v3 (.i (.ofNat 1)) fun v4 => v_nck v0 fun v5 => v_fa v5 0 fun v6 => stV M v6 v4 1 fun M => k e M n)
def R19_3 : RegF := fun a e M n k => VV.onAny (.nils) (e.setK q4 (.nils) fun e => k e M n)
def R19_4 : RegF := fun a e M n k => VV.onAny (.i (.ofNat 0)) (e.setK q6 (.i (.ofNat 0)) fun e => k e M n)
def R19_5 : RegF := fun a e M n k => e.getK q4 fun v0 => VV.onAny v0 (callV a s56 [v0] M n fun v1 M n => k e M n)
def R19_6 : RegF := fun a e M n k => e.getK q4 fun v0 => e.getK q6 fun v1 => VV.onAny v0 (VV.onAny v1 (VV.onAny v0 (VV.onAny v1 (e.setK q17 v0 fun e => e.setK q18 v1 fun e => k e M n))))
def R19_7 : RegF := fun a e M n k => VV.onAny (.i (.ofNat 3)) (e.setK q1 (.i (.ofNat 3)) fun e => k e M n)
def R19_8 : RegF := fun a e M n k => e.getK q1 fun v0 => VV.onAny v0 (v_le (.i (.ofNat 0)) v0 fun v1 => e.setK q8 v1 fun e => k e M n)
def R19_9 : RegF := fun a e M n k => e.getK q1 fun v0 => VV.onAny v0 (v_sub v0 (.i (.ofNat 1)) fun v1 => VV.onAny v1 (e.setK q1 v1 fun e => k e M n))
def R19_10 : RegF := fun a e M n k => e.getK q0 fun v0 => e.getK q1 fun v1 => VV.onAny v0 (v_nck v0 fun v2 => v_fa v2 0 fun v3 => ldW M v3 1 false fun _ v4 => VV.onAny v1 (v_mul (.i (.ofNat 6)) v1 fun v5 => v_conv .u64 v5 fun v6 => v_kop .shl (.i (.ofNat 1)) v6 fun v7 => v_sub v7 (.i (.ofNat 1)) fun v8 => v_kop .and v4 v8 fun v9 => v_ne v9 (.i (.ofNat 0)) fun v10 => e.setK q9 v10 fun e => k e M n))
def R19_11 : RegF := fun a e M n k => e.getK q0 fun v0 => e.getK q1 fun v1 => (fun M0 => VV.onAny v0 (VV.onAny v1 (VV.onAny v0 (v_nck v0 fun v2 => v_fa v2 0 fun v3 => ldW M v3 1 false fun _ v4 => VV.onAny v1 (callV a s52 [v4, v1] M n fun v5 M n => v_nck v0 fun v6 => v_fa v6 1 fun v7 => v_ixA v7 v1 4 64 fun v8 => v_ixA v8 v5 64 1 fun v9 => VV.onAny v9 (Bool.rec false (e.setK q5 v9 fun e => k e M n) (keptB M0 M []))))))) M
def R19_12 : RegF := fun a e M n k => e.getK q5 fun v0 => VV.onAny v0 (v_nck v0 fun v1 => ldW M v1 1 false fun _ v2 => VV.onAny v2 (e.setK q10 v2 fun e => k e M n))
def R19_13 : RegF := fun a e M n k => e.getK q5 fun v0 => VV.onAny v0 (v_nck v0 fun v1 => stV M v1 (.nils) 1 fun M => k e M n)
def R19_14 : RegF := fun a e M n k => e.getK q10 fun v0 => VV.onAny v0 (v_lenS v0 fun v1 => VV.onAny (.i (.ofNat 0)) (e.setK q13 v0 fun e => e.setK q11 v1 fun e => e.setK q3 (.i (.ofNat 0)) fun e => k e M n))
def R19_15 : RegF := fun a e M n k => e.getK q3 fun v0 => e.getK q11 fun v1 => v_lt v0 v1 fun v2 => e.setK q12 v2 fun e => k e M n
def R19_16 : RegF := fun a e M n k => e.getK q3 fun v0 => v_add v0 (.i (.ofNat 1)) fun v1 => VV.onAny v1 (e.setK q3 v1 fun e => k e M n)
def R19_17 : RegF := fun a e M n k => e.getK q13 fun v0 => e.getK q3 fun v1 => v_ixS v0 v1 2 fun v2 => ldW M v2 2 true fun _ v3 => alV 143 [(.i (.ofNat 0)), (.i (.ofNat 0))] M n fun v4 M n => stV M v4 v3 2 fun M => e.setK q2 v4 fun e => k e M n
def R19_18 : RegF := fun a e M n k => e.getK q2 fun v0 => e.getK q0 fun v1 => (fun M0 => v_fa v0 1 fun v2 => ldW M v2 1 false fun _ v3 => VV.onAny v1 (v_nck v1 fun v4 => v_fa v4 0 fun v5 => ldW M v5 1 false fun _ v6 => v_eq v3 v6 fun v7 => VV.onAny v7 (Bool.rec false (e.setK q14 v7 fun e => k e M n) (keptB M0 M [])))) M
def R19_19 : RegF := fun a e M n k => e.getK q0 fun v0 => e.getK q2 fun v1 => VV.onAny v0 (ldW M v1 2 true fun _ v2 => callV a s54 [v0, v2, (.fn s55 [] [])] M n fun v3 M n => k e M n)
def R19_20 : RegF := fun a e M n k => e.getK q0 fun v0 => e.getK q2 fun v1 => VV.onAny v0 (v_fa v1 1 fun v2 => ldW M v2 1 false fun _ v3 => callV a s53 [v0, v3] M n fun v4 M n => VV.onAny v4 (v_ext v4 0 fun v5 => v_ext v4 1 fun v6 => VV.onAny v5 (VV.onAny v6 (e.setK q15 v5 fun e => k e M n))))
def R19_21 : RegF := fun a e M n k => e.getK q15 fun v0 => e.getK q1 fun v1 => VV.onAny v0 (VV.onAny v1 (v_ne v0 v1 fun v2 => e.setK q16 v2 fun e => k e M n))
def R19_22 : RegF := fun a e M n k => e.getK q6 fun v0 => VV.onAny v0 (v_add v0 (.i (.ofNat 1)) fun v1 => VV.onAny v1 (e.setK q6 v1 fun e => k e M n))
def R19_23 : RegF := fun a e M n k => e.getK q4 fun v0 => e.getK q2 fun v1 => VV.onAny v0 (v_fa v1 0 fun v2 => ldW M v2 1 false fun _ v3 => bslV 3 1 1 [(.i (.ofNat 0))] [(0, 1, v3)] M n fun v4 M n => appV 3 1 8 v0 v4 M n fun v5 M n => VV.onAny v5 (e.setK q4 v5 fun e => k e M n))
def R19_24 : RegF := fun a e M n k => e.getK q0 fun v0 => VV.onAny v0 (v_nck v0 fun v1 => v_fa v1 257 fun v2 => ldW M v2 1 false fun _ v3 => v_sub v3 (.i (.ofNat 1)) fun v4 => v_nck v0 fun v5 => v_fa v5 257 fun v6 => stV M v6 v4 1 fun M => k e M n)
def R19_25 : RegF := fun a e M n k => VV.onAny (.nils) (VV.onAny (.i (.ofNat 0)) (e.setK q17 (.nils) fun e => e.setK q18 (.i (.ofNat 0)) fun e => k e M n))
def S19 : List (P × I) := [(s0, q0), (s6, q1), (s10, q2), (s63, q3), (s4, q4), (s7, q5), (s5, q6), (s21, q7), (s30, q8), (s43, q9), (s8, q10), (s62, q11), (s64, q12), (s61, q13), (s82, q14), (s11, q15), (s76, q16), (s2, q17), (s3, q18)]
def G19 : F2 := .mk (fun a e M n k => R19_0 a e M n fun e M n => R19_1 a e M n fun e M n => e.getK q7 fun v => v.onB fun c => Bool.rec (R19_2 a e M n fun e M n => R19_3 a e M n fun e M n => R19_4 a e M n fun e M n => (fun (j0 : En → Mem → P → Bool) => R19_7 a e M n fun e M n => (fun (j1 : En → Mem → P → Bool) => loopK (fun a e M n k => R19_8 a e M n fun e M n => e.getK q8 fun v => v.onB fun c => Bool.rec (k (.x 0) e M n) ((fun (j2 : En → Mem → P → Bool) => (fun (j3 : En → Mem → P → Bool) => R19_10 a e M n fun e M n => e.getK q9 fun v => v.onB fun c => Bool.rec (R19_11 a e M n fun e M n => R19_12 a e M n fun e M n => R19_13 a e M n fun e M n => R19_14 a e M n fun e M n => (fun (j4 : En → Mem → P → Bool) => loopK (fun a e M n k => R19_15 a e M n fun e M n => e.getK q12 fun v => v.onB fun c => Bool.rec (k (.x 2) e M n) ((fun (j5 : En → Mem → P → Bool) => (fun (j6 : En → Mem → P → Bool) => R19_17 a e M n fun e M n => (fun (j7 : En → Mem → P → Bool) => R19_18 a e M n fun e M n => (fun (j8 : En → Mem → P → Bool) => e.getK q14 fun v => v.onB fun c => Bool.rec ((fun (j9 : En → Mem → P → Bool) => R19_20 a e M n fun e M n => R19_21 a e M n fun e M n => (fun (j10 : En → Mem → P → Bool) => e.getK q16 fun v => v.onB fun c => Bool.rec (j10 e M n) (R19_22 a e M n fun e M n => j10 e M n) c) fun e M n => j9 e M n) fun e M n => R19_19 a e M n fun e M n => j8 e M n) (R19_23 a e M n fun e M n => R19_24 a e M n fun e M n => j8 e M n) c) fun e M n => j7 e M n) fun e M n => j6 e M n) fun e M n => j5 e M n) fun e M n => R19_16 a e M n fun e M n => k .n e M n) c) a e M n fun ex e M n => Ex.rec (j4 e M n) (k .r e M n) (fun id => Bool.rec (Bool.rec (k (.x id) e M n) (j3 e M n) (Nat.beq id 1)) (j4 e M n) (Nat.beq id 2)) ex) fun e M n => j3 e M n) (j3 e M n) c) fun e M n => j2 e M n) fun e M n => R19_9 a e M n fun e M n => k .n e M n) c) a e M n fun ex e M n => Ex.rec (j1 e M n) (k .r e M n) (fun id => Bool.rec (k (.x id) e M n) (j1 e M n) (Nat.beq id 0)) ex) fun e M n => j0 e M n) fun e M n => R19_5 a e M n fun e M n => R19_6 a e M n fun e M n => k .r e M n) (R19_25 a e M n fun e M n => k .r e M n) c) [.t q17, .t q18] [q0]
def R22_0 : RegF := fun a e M n k => e.getK q1 fun v0 => bxV 41 v0 M n fun v1 M n => e.setK q2 v1 fun e => k e M n
def R22_1 : RegF := fun a e M n k => e.getK q2 fun v0 => e.getK q0 fun v1 => (fun M0 => v_fa v0 1 fun v2 => ldW M v2 1 false fun _ v3 => v_le (.i (.ofNat 0)) v3 fun v4 => VV.onAny v4 (gdK v4 true .off M n (fun j => v_fa v0 1 fun v => j v M n) fun v5 M n => gdK v4 true .off M n (fun j => ldW M v5 1 false fun _ v => j v M n) fun v6 M n => gdK v4 true .off M n (fun j => v_mv v1 fun v => j v M n) fun v7 M n => gdK v4 true .off M n (fun j => v_nck v7 fun v => j v M n) fun v8 M n => gdK v4 true .off M n (fun j => v_fa v8 8 fun v => j v M n) fun v9 M n => gdK v4 true .off M n (fun j => ldW M v9 1 false fun _ v => j v M n) fun v10 M n => gdK v4 true .off M n (fun j => v_lenS v10 fun v => j v M n) fun v11 M n => gdK v4 true .off M n (fun j => v_lt v6 v11 fun v => j v M n) fun v12 M n => v_pick v4 v12 (.bool false) fun v13 => VV.onAny v13 (Bool.rec false (e.setK q3 v13 fun e => k e M n) (keptB M0 M [])))) M
def R22_2 : RegF := fun a e M n k => e.getK q2 fun v0 => e.getK q0 fun v1 => (fun M0 => v_fa v0 1 fun v2 => ldW M v2 1 false fun _ v3 => v_eq v3 (.i (.negSucc 0)) fun v4 => VV.onAny v4 (gdK v4 true .off M n (fun j => v_fa v0 2 fun v => j v M n) fun v5 M n => gdK v4 true .off M n (fun j => ldW M v5 1 false fun _ v => j v M n) fun v6 M n => gdK v4 true .off M n (fun j => v_le (.i (.ofNat 0)) v6 fun v => j v M n) fun v7 M n => v_pick v4 v7 (.bool false) fun v8 => VV.onAny v8 (gdK v8 true .off M n (fun j => v_fa v0 2 fun v => j v M n) fun v9 M n => gdK v8 true .off M n (fun j => ldW M v9 1 false fun _ v => j v M n) fun v10 M n => gdK v8 true .off M n (fun j => v_mv v1 fun v => j v M n) fun v11 M n => gdK v8 true .off M n (fun j => v_nck v11 fun v => j v M n) fun v12 M n => gdK v8 true .off M n (fun j => v_fa v12 0 fun v => j v M n) fun v13 M n => gdK v8 true .off M n (fun j => ldW M v13 1 false fun _ v => j v M n) fun v14 M n => gdK v8 true .off M n (fun j => v_lenS v14 fun v => j v M n) fun v15 M n => gdK v8 true .off M n (fun j => v_lt v10 v15 fun v => j v M n) fun v16 M n => v_pick v8 v16 (.bool false) fun v17 => VV.onAny v17 (gdK v17 true .off M n (fun j => v_mv v1 fun v => j v M n) fun v18 M n => gdK v17 true .off M n (fun j => v_nck v18 fun v => j v M n) fun v19 M n => gdK v17 true .off M n (fun j => v_fa v19 0 fun v => j v M n) fun v20 M n => gdK v17 true .off M n (fun j => ldW M v20 1 false fun _ v => j v M n) fun v21 M n => gdK v17 true .off M n (fun j => v_fa v0 2 fun v => j v M n) fun v22 M n => gdK v17 true .off M n (fun j => ldW M v22 1 false fun _ v => j v M n) fun v23 M n => gdK v17 true .off M n (fun j => v_ixS v21 v23 8 fun v => j v M n) fun v24 M n => gdK v17 true .off M n (fun j => v_fa v24 5 fun v => j v M n) fun v25 M n => gdK v17 true .off M n (fun j => ldW M v25 1 false fun _ v => j v M n) fun v26 M n => gdK v17 true .off M n (fun j => v_eq v26 (.i (.negSucc 0)) fun v => j v M n) fun v27 M n => v_pick v17 v27 (.bool false) fun v28 => VV.onAny v28 (Bool.rec false (e.setK q4 v28 fun e => k e M n) (keptB M0 M [])))))) M
def R22_3 : RegF := fun a e M n k => e.getK q0 fun v0 => e.getK q2 fun v1 => (fun M0 => VV.onAny v0 (v_fa v1 2 fun v2 => ldW M v2 1 false fun _ v3 => VV.onAny v0 (v_nck v0 fun v4 => v_fa v4 1 fun v5 => ldW M v5 1 false fun _ v6 => callV a s61 [v0, v3, v6] M n fun v7 M n => Bool.rec false (k e M n) (keptB M0 M [])))) M
def R22_4 : RegF := fun a e M n k => e.getK q0 fun v0 => e.getK q2 fun v1 => (fun M0 => VV.onAny v0 (v_nck v0 fun v2 => v_fa v2 8 fun v3 => ldW M v3 1 false fun _ v4 => v_fa v1 1 fun v5 => ldW M v5 1 false fun _ v6 => v_ixS v4 v6 1 fun v7 => ldW M v7 1 false fun _ v8 => VV.onAny v0 (v_nck v0 fun v9 => v_fa v9 1 fun v10 => ldW M v10 1 false fun _ v11 => callV a s60 [v8, v11] M n fun v12 M n => Bool.rec false (k e M n) (keptB M0 M [])))) M
def S22 : List (P × I) := [(s0, q0), (s1, q1), (s3, q2), (s4, q3), (s31, q4)]
def G22 : F2 := .mk (fun a e M n k => R22_0 a e M n fun e M n => (fun (j0 : En → Mem → P → Bool) => R22_1 a e M n fun e M n => (fun (j1 : En → Mem → P → Bool) => e.getK q3 fun v => v.onB fun c => Bool.rec (R22_2 a e M n fun e M n => (fun (j2 : En → Mem → P → Bool) => e.getK q4 fun v => v.onB fun c => Bool.rec (j2 e M n) (R22_3 a e M n fun e M n => j2 e M n) c) fun e M n => j1 e M n) (R22_4 a e M n fun e M n => j1 e M n) c) fun e M n => j0 e M n) fun e M n => k .n e M n) [] [q0, q1]
def R23_0 : RegF := fun a e M n k => alV 36 [(.i (.ofNat 0)), (.bool false)] M n fun v0 M n => e.setK q2 v0 fun e => k e M n
def R23_1 : RegF := fun a e M n k => e.getK q0 fun v0 => VV.onAny v0 (v_nck v0 fun v1 => v_fa v1 2 fun v2 => ldW M v2 1 false fun _ v3 => callV a s62 [v3, (.fn s63 [] [])] M n fun v4 M n => VV.onAny v4 (e.setK q1 v4 fun e => k e M n))
def R23_2 : RegF := fun a e M n k => e.getK q0 fun v0 => VV.onAny v0 (VV.onAny v0 (callV a s14 [v0] M n fun v1 M n => v_nck v0 fun v2 => v_fa v2 13 fun v3 => stV M v3 v1 5 fun M => k e M n))
def R23_3 : RegF := fun a e M n k => e.getK q1 fun v0 => VV.onAny v0 (v_lt v0 (.i (.ofNat 0)) fun v1 => e.setK q7 v1 fun e => k e M n)
def R23_4 : RegF := fun a e M n k => e.getK q0 fun v0 => e.getK q1 fun v1 => VV.onAny v0 (v_nck v0 fun v2 => v_fa v2 5 fun v3 => ldW M v3 1 false fun _ v4 => VV.onAny v1 (callV a s68 [v4, v1, (.i (.ofNat 1))] M n fun v5 M n => k e M n))
def R23_5 : RegF := fun a e M n k => e.getK q0 fun v0 => e.getK q1 fun v1 => VV.onAny v0 (v_nck v0 fun v2 => v_fa v2 2 fun v3 => ldW M v3 1 false fun _ v4 => VV.onAny v1 (v_ixS v4 v1 21 fun v5 => v_fa v5 19 fun v6 => ldW M v6 1 false fun _ v7 => v_lt v7 (.i (.ofNat 0)) fun v8 => VV.onAny v8 (gdK v8 true .off M n (fun j => v_mv v0 fun v => j v M n) fun v9 M n => gdK v8 true .off M n (fun j => v_mv v1 fun v => j v M n) fun v10 M n => gdK v8 true .no M n (fun j => callV a s69 [v9, v10] M n fun v M n => j v M n) fun v11 M n => gdK v8 true .off M n (fun j => v_fd v11 0 1 false fun v => j v M n) fun v12 M n => gdK v8 true .off M n (fun j => v_eq v12 (.i (.ofNat 10)) fun v => j v M n) fun v13 M n => v_pick v8 v13 (.bool false) fun v14 => VV.onAny v14 (e.setK q9 v14 fun e => k e M n))))
def R23_6 : RegF := fun a e M n k => e.getK q0 fun v0 => e.getK q1 fun v1 => VV.onAny v0 (VV.onAny v1 (callV a s70 [v0, v1] M n fun v2 M n => k e M n))
def R23_7 : RegF := fun a e M n k => e.getK q0 fun v0 => e.getK q1 fun v1 => VV.onAny v0 (VV.onAny v1 (callV a s71 [v0, v1] M n fun v2 M n => k e M n))
def R23_8 : RegF := fun a e M n k => e.getK q1 fun v0 => e.getK q9 fun v1 => e.getK q2 fun v2 => VV.onAny v0 (VV.onAny v1 (v_bld [(.i (.ofNat 0)), (.bool false)] [(0, 1, v0), (1, 1, v1)] fun v3 => stV M v2 v3 2 fun M => k e M n))
def R23_9 : RegF := fun a e M n k => e.getK q0 fun v0 => e.getK q1 fun v1 => VV.onAny v0 (v_nck v0 fun v2 => v_fa v2 2 fun v3 => ldW M v3 1 false fun _ v4 => VV.onAny v1 (v_ixS v4 v1 21 fun v5 => v_fa v5 14 fun v6 => ldW M v6 1 false fun _ v7 => e.setK q8 v7 fun e => k e M n))
def R23_10 : RegF := fun a e M n k => e.getK q0 fun v0 => e.getK q1 fun v1 => (fun M0 => VV.onAny v0 (v_nck v0 fun v2 => v_fa v2 2 fun v3 => ldV M v3 1 false fun bv4 v4 => VV.onAny v1 (VV.onAny v0 (v_nck v0 fun v5 => v_fa v5 2 fun v6 => ldW M v6 1 false fun _ v7 => VV.onAny v1 (v_ixS v7 v1 21 fun v8 => ldW M v8 21 true fun _ v9 => callV a s67 [v9, (.i (.ofNat 1))] M n fun v10 M n => v_ixS v4 v1 21 fun v11 => Bool.rec false (stV M v11 v10 21 fun M => k e M n) (keptB M0 M (bv4 :: []))))))) M
def R23_11 : RegF := fun a e M n k => e.getK q2 fun v0 => v_bld [(.i (.ofNat 0)), (.bool false)] [(0, 1, (.i (.negSucc 0)))] fun v1 => stV M v0 v1 2 fun M => k e M n
def R23_12 : RegF := fun a e M n k => e.getK q1 fun v0 => VV.onAny v0 (v_lt v0 (.i (.ofNat 0)) fun v1 => e.setK q4 v1 fun e => k e M n)
def R23_13 : RegF := fun a e M n k => e.getK q0 fun v0 => VV.onAny v0 (callV a s64 [v0] M n fun v1 M n => VV.onAny v1 (v_ext v1 0 fun v2 => v_ext v1 1 fun v3 => VV.onAny v2 (VV.onAny v3 (e.setK q3 v2 fun e => e.setK q5 v3 fun e => k e M n))))
def R23_14 : RegF := fun a e M n k => e.getK q5 fun v0 => VV.onAny v0 (e.setK q6 v0 fun e => k e M n)
def R23_15 : RegF := fun a e M n k => e.getK q0 fun v0 => VV.onAny v0 (callV a s66 [v0] M n fun v1 M n => VV.onAny v1 (e.setK q1 v1 fun e => k e M n))
def R23_16 : RegF := fun a e M n k => e.getK q0 fun v0 => VV.onAny v0 (VV.onAny v0 (callV a s14 [v0] M n fun v1 M n => v_nck v0 fun v2 => v_fa v2 13 fun v3 => stV M v3 v1 5 fun M => k e M n))
def R23_17 : RegF := fun a e M n k => e.getK q0 fun v0 => e.getK q3 fun v1 => VV.onAny v0 (VV.onAny v1 (callV a s65 [v0, v1] M n fun v2 M n => k e M n))
def R23_18 : RegF := fun a e M n k => e.getK q3 fun v0 => e.getK q2 fun v1 => VV.onAny v0 (v_sub (.i (.negSucc 1)) v0 fun v2 => v_bld [(.i (.ofNat 0)), (.bool false)] [(0, 1, v2)] fun v3 => stV M v1 v3 2 fun M => k e M n)
def S23 : List (P × I) := [(s0, q0), (s3, q1), (s2, q2), (s4, q3), (s13, q4), (s5, q5), (s19, q6), (s39, q7), (s48, q8), (s6, q9)]
def G23 : F2 := .mk (fun a e M n k => R23_0 a e M n fun e M n => R23_1 a e M n fun e M n => (fun (j0 : En → Mem → P → Bool) => R23_12 a e M n fun e M n => (fun (j3 : En → Mem → P → Bool) => e.getK q4 fun v => v.onB fun c => Bool.rec (j3 e M n) (R23_13 a e M n fun e M n => R23_14 a e M n fun e M n => e.getK q6 fun v => v.onB fun c => Bool.rec (R23_15 a e M n fun e M n => j3 e M n) (R23_16 a e M n fun e M n => R23_17 a e M n fun e M n => R23_18 a e M n fun e M n => k .r e M n) c) c) fun e M n => j0 e M n) fun e M n => R23_2 a e M n fun e M n => R23_3 a e M n fun e M n => e.getK q7 fun v => v.onB fun c => Bool.rec ((fun (j1 : En → Mem → P → Bool) => R23_9 a e M n fun e M n => (fun (j2 : En → Mem → P → Bool) => e.getK q8 fun v => v.onB fun c => Bool.rec (j2 e M n) (R23_10 a e M n fun e M n => j2 e M n) c) fun e M n => j1 e M n) fun e M n => R23_4 a e M n fun e M n => R23_5 a e M n fun e M n => R23_6 a e M n fun e M n => R23_7 a e M n fun e M n => R23_8 a e M n fun e M n => k .r e M n) (R23_11 a e M n fun e M n => k .r e M n) c) [.c q2 2 true] [q0]
def R24_0 : RegF := fun a e M n k => VV.onAny (.bool false) (e.setK q2 (.bool false) fun e => k e M n)
def R24_1 : RegF := fun a e M n k => e.getK q0 fun v0 => e.getK q1 fun v1 => VV.onAny v0 (VV.onAny v1 (callV a s62 [v0, v1] M n fun v2 M n => v_le (.i (.ofNat 0)) v2 fun v3 => VV.onAny v3 (e.setK q2 v3 fun e => k e M n)))
def S24 : List (P × I) := [(s0, q0), (s1, q1), (s4, q2)]
def G24 : F2 := .mk (fun a e M n k => R24_0 a e M n fun e M n => R24_1 a e M n fun e M n => k .r e M n) [.t q2] [q0, q1]
def R25_0 : RegF := fun a e M n k => e.getK q0 fun v0 => bxV 102 v0 M n fun v1 M n => VV.onAny (.bool false) (e.setK q1 v1 fun e => e.setK q2 (.bool false) fun e => k e M n)
def R25_1 : RegF := fun a e M n k => e.getK q1 fun v0 => v_fa v0 14 fun v1 => ldW M v1 1 false fun _ v2 => VV.onAny v2 (e.setK q2 v2 fun e => k e M n)
def S25 : List (P × I) := [(s0, q0), (s1, q1), (s2, q2)]
def G25 : F2 := .mk (fun a e M n k => R25_0 a e M n fun e M n => R25_1 a e M n fun e M n => k .r e M n) [.t q2] [q0]
def R26_0 : RegF := fun a e M n k => e.getK q0 fun v0 => VV.onAny v0 (v_nqP true v0 fun v1 => e.setK q2 v1 fun e => k e M n)
def R26_1 : RegF := fun a e M n k => e.getK q0 fun v0 => e.getK q1 fun v1 => (fun M0 => VV.onAny v0 (VV.onAny v0 (v_nck v0 fun v2 => v_fa v2 1 fun v3 => ldV M v3 1 false fun bv4 v4 => VV.onAny v1 (callV a s72 [v1] M n fun v5 M n => v_max v4 v5 fun v6 => v_nck v0 fun v7 => v_fa v7 1 fun v8 => Bool.rec false (stV M v8 v6 1 fun M => k e M n) (keptB M0 M (bv4 :: [])))))) M
def S26 : List (P × I) := [(s0, q0), (s1, q1), (s5, q2)]
def G26 : F2 := .mk (fun a e M n k => R26_0 a e M n fun e M n => (fun (j0 : En → Mem → P → Bool) => e.getK q2 fun v => v.onB fun c => Bool.rec (j0 e M n) (R26_1 a e M n fun e M n => j0 e M n) c) fun e M n => k .n e M n) [] [q0, q1]
def R27_0 : RegF := fun a e M n k => VV.onAny (.bool false) (e.setK q4 (.bool false) fun e => k e M n)
def R27_1 : RegF := fun a e M n k => e.getK q1 fun v0 => VV.onAny v0 (callV a s72 [v0] M n fun v1 M n => VV.onAny v1 (e.setK q1 v1 fun e => k e M n))
def R27_2 : RegF := fun a e M n k => e.getK q0 fun v0 => e.getK q1 fun v1 => (fun M0 => VV.onAny v0 (v_nqP false v0 fun v2 => VV.onAny v2 (gdK v2 false .off M n (fun j => v_mv v1 fun v => j v M n) fun v3 M n => gdK v2 false .off M n (fun j => v_mv v0 fun v => j v M n) fun v4 M n => gdK v2 false .off M n (fun j => v_nck v4 fun v => j v M n) fun v5 M n => gdK v2 false .off M n (fun j => v_fa v5 1 fun v => j v M n) fun v6 M n => gdK v2 false .off M n (fun j => ldW M v6 1 false fun _ v => j v M n) fun v7 M n => gdK v2 false .off M n (fun j => v_sub v3 v7 fun v => j v M n) fun v8 M n => gdK v2 false .off M n (fun j => v_mv v0 fun v => j v M n) fun v9 M n => gdK v2 false .off M n (fun j => v_nck v9 fun v => j v M n) fun v10 M n => gdK v2 false .off M n (fun j => v_fa v10 0 fun v => j v M n) fun v11 M n => gdK v2 false .off M n (fun j => ldW M v11 1 false fun _ v => j v M n) fun v12 M n => gdK v2 false .off M n (fun j => v_lt v8 v12 fun v => j v M n) fun v13 M n => v_pick v2 (.bool true) v13 fun v14 => Bool.rec false (e.setK q2 v14 fun e => k e M n) (keptB M0 M [])))) M
def R27_3 : RegF := fun a e M n k => e.getK q0 fun v0 => VV.onAny v0 (v_mkf s26 [v0] [] fun v1 => VV.onAny v1 (e.setK q3 v1 fun e => k e M n))
def R27_4 : RegF := fun a e M n k => e.getK q3 fun v0 => e.getK q1 fun v1 => VV.onAny v0 (VV.onAny v1 (cvV a v0 [v1] M n fun v2 M n => k e M n))
def R27_5 : RegF := fun a e M n k => e.getK q0 fun v0 => e.getK q1 fun v1 => VV.onAny v0 (VV.onAny v0 (v_nck v0 fun v2 => v_fa v2 2 fun v3 => ldW M v3 1 false fun _ v4 => VV.onAny v1 (bslV 3 1 1 [(.i (.ofNat 0))] [(0, 1, v1)] M n fun v5 M n => appV 3 1 8 v4 v5 M n fun v6 M n => v_nck v0 fun v7 => v_fa v7 2 fun v8 => stV M v8 v6 1 fun M => k e M n)))
def R27_6 : RegF := fun a e M n k => VV.onAny (.bool true) (e.setK q4 (.bool true) fun e => k e M n)
def R27_7 : RegF := fun a e M n k => VV.onAny (.bool false) (e.setK q4 (.bool false) fun e => k e M n)
def S27 : List (P × I) := [(s0, q0), (s1, q1), (s22, q2), (s5, q3), (s4, q4)]
def G27 : F2 := .mk (fun a e M n k => R27_0 a e M n fun e M n => R27_1 a e M n fun e M n => R27_2 a e M n fun e M n => e.getK q2 fun v => v.onB fun c => Bool.rec (R27_3 a e M n fun e M n => R27_4 a e M n fun e M n => R27_5 a e M n fun e M n => R27_6 a e M n fun e M n => k .r e M n) (R27_7 a e M n fun e M n => k .r e M n) c) [.t q4] [q0, q1]
def R28_0 : RegF := fun a e M n k => VV.onAny (.nils) (e.setK q8 (.nils) fun e => k e M n)
def R28_1 : RegF := fun a e M n k => e.getK q0 fun v0 => VV.onAny v0 (v_nqP false v0 fun v1 => e.setK q3 v1 fun e => k e M n)
def R28_2 : RegF := fun a e M n k => VV.onAny (.nils) (e.setK q2 (.nils) fun e => k e M n)
def R28_3 : RegF := fun a e M n k => e.getK q0 fun v0 => VV.onAny v0 (v_mkf s73 [v0] [] fun v1 => VV.onAny v1 (e.setK q6 v1 fun e => k e M n))
def R28_4 : RegF := fun a e M n k => e.getK q2 fun v0 => VV.onAny v0 (VV.onAny v0 (e.setK q8 v0 fun e => k e M n))
def R28_5 : RegF := fun a e M n k => e.getK q0 fun v0 => VV.onAny v0 (v_nck v0 fun v1 => v_fa v1 0 fun v2 => ldW M v2 1 false fun _ v3 => callV a s74 [v3] M n fun v4 M n => VV.onAny (.i (.ofNat 0)) (e.setK q4 v4 fun e => e.setK q1 (.i (.ofNat 0)) fun e => k e M n))
def R28_6 : RegF := fun a e M n k => e.getK q1 fun v0 => e.getK q4 fun v1 => v_lt v0 v1 fun v2 => e.setK q5 v2 fun e => k e M n
def R28_7 : RegF := fun a e M n k => e.getK q1 fun v0 => VV.onAny v0 (VV.onAny v0 (e.setK q7 v0 fun e => k e M n))
def R28_8 : RegF := fun a e M n k => e.getK q2 fun v0 => e.getK q6 fun v1 => e.getK q7 fun v2 => VV.onAny v0 (VV.onAny v1 (VV.onAny v2 (cvV a v1 [v2] M n fun v3 M n => bslV 3 1 1 [(.i (.ofNat 0))] [(0, 1, v3)] M n fun v4 M n => appV 3 1 8 v0 v4 M n fun v5 M n => VV.onAny v5 (e.setK q2 v5 fun e => k e M n))))
def R28_9 : RegF := fun a e M n k => e.getK q1 fun v0 => v_add v0 (.i (.ofNat 1)) fun v1 => VV.onAny v1 (e.setK q1 v1 fun e => k e M n)
def R28_10 : RegF := fun a e M n k => VV.onAny (.nils) (e.setK q8 (.nils) fun e => k e M n)
def S28 : List (P × I) := [(s0, q0), (s15, q1), (s3, q2), (s7, q3), (s14, q4), (s16, q5), (s4, q6), (s5, q7), (s2, q8)]
def G28 : F2 := .mk (fun a e M n k => R28_0 a e M n fun e M n => R28_1 a e M n fun e M n => e.getK q3 fun v => v.onB fun c => Bool.rec (R28_2 a e M n fun e M n => R28_3 a e M n fun e M n => (fun (j0 : En → Mem → P → Bool) => R28_5 a e M n fun e M n => (fun (j1 : En → Mem → P → Bool) => loopK (fun a e M n k => R28_6 a e M n fun e M n => e.getK q5 fun v => v.onB fun c => Bool.rec (k (.x 0) e M n) (R28_7 a e M n fun e M n => R28_8 a e M n fun e M n => R28_9 a e M n fun e M n => k .n e M n) c) a e M n fun ex e M n => Ex.rec (j1 e M n) (k .r e M n) (fun id => Bool.rec (k (.x id) e M n) (j1 e M n) (Nat.beq id 0)) ex) fun e M n => j0 e M n) fun e M n => R28_4 a e M n fun e M n => k .r e M n) (R28_10 a e M n fun e M n => k .r e M n) c) [.t q8] [q0]
def R29_0 : RegF := fun a e M n k => VV.onAny (.nils) (e.setK q2 (.nils) fun e => k e M n)
def R29_1 : RegF := fun a e M n k => e.getK q0 fun v0 => VV.onAny v0 (v_nqP false v0 fun v1 => e.setK q1 v1 fun e => k e M n)
def R29_2 : RegF := fun a e M n k => e.getK q0 fun v0 => VV.onAny v0 (v_nck v0 fun v1 => v_fa v1 2 fun v2 => ldW M v2 1 false fun _ v3 => callV a s39 [v3] M n fun v4 M n => VV.onAny v4 (e.setK q2 v4 fun e => k e M n))
def R29_3 : RegF := fun a e M n k => VV.onAny (.nils) (e.setK q2 (.nils) fun e => k e M n)
def S29 : List (P × I) := [(s0, q0), (s4, q1), (s2, q2)]
def G29 : F2 := .mk (fun a e M n k => R29_0 a e M n fun e M n => R29_1 a e M n fun e M n => e.getK q1 fun v => v.onB fun c => Bool.rec (R29_2 a e M n fun e M n => k .r e M n) (R29_3 a e M n fun e M n => k .r e M n) c) [.t q2] [q0]
def R30_0 : RegF := fun a e M n k => VV.onAny (.nils) (e.setK q3 (.nils) fun e => k e M n)
def R30_1 : RegF := fun a e M n k => e.getK q0 fun v0 => VV.onAny v0 (v_nqP false v0 fun v1 => e.setK q2 v1 fun e => k e M n)
def R30_2 : RegF := fun a e M n k => e.getK q0 fun v0 => e.getK q1 fun v1 => VV.onAny v0 (v_nck v0 fun v2 => v_fa v2 1 fun v3 => ldW M v3 1 false fun _ v4 => VV.onAny v1 (lkuV .nils false v4 v1 M fun v5 => callV a s75 [v5] M n fun v6 M n => VV.onAny v6 (e.setK q3 v6 fun e => k e M n)))
def R30_3 : RegF := fun a e M n k => VV.onAny (.nils) (e.setK q3 (.nils) fun e => k e M n)
def S30 : List (P × I) := [(s0, q0), (s1, q1), (s6, q2), (s4, q3)]
def G30 : F2 := .mk (fun a e M n k => R30_0 a e M n fun e M n => R30_1 a e M n fun e M n => e.getK q2 fun v => v.onB fun c => Bool.rec (R30_2 a e M n fun e M n => k .r e M n) (R30_3 a e M n fun e M n => k .r e M n) c) [.t q3] [q0, q1]
def R32_0 : RegF := fun a e M n k => VV.onAny (.nils) (e.setK q2 (.nils) fun e => k e M n)
def R32_1 : RegF := fun a e M n k => e.getK q0 fun v0 => VV.onAny v0 (v_nqS false v0 fun v1 => e.setK q1 v1 fun e => k e M n)
def R32_2 : RegF := fun a e M n k => e.getK q0 fun v0 => bslV 60 6 0 [] [] M n fun v1 M n => VV.onAny v0 (appV 60 6 48 v1 v0 M n fun v2 M n => VV.onAny v2 (e.setK q2 v2 fun e => k e M n))
def R32_3 : RegF := fun a e M n k => VV.onAny (.nils) (e.setK q2 (.nils) fun e => k e M n)
def S32 : List (P × I) := [(s0, q0), (s4, q1), (s2, q2)]
def G32 : F2 := .mk (fun a e M n k => R32_0 a e M n fun e M n => R32_1 a e M n fun e M n => e.getK q1 fun v => v.onB fun c => Bool.rec (R32_2 a e M n fun e M n => k .r e M n) (R32_3 a e M n fun e M n => k .r e M n) c) [.t q2] [q0]
def R33_0 : RegF := fun a e M n k => e.getK q0 fun v0 => bxV 28 v0 M n fun v1 M n => VV.onAny (.nils) (VV.onAny (.nils) (VV.onAny (.nils) (VV.onAny (.i (.ofNat 0)) (e.setK q5 v1 fun e => e.setK q7 (.nils) fun e => e.setK q8 (.nils) fun e => e.setK q9 (.nils) fun e => e.setK q10 (.i (.ofNat 0)) fun e => k e M n))))
def R33_1 : RegF := fun a e M n k => e.getK q5 fun v0 => ldW M v0 6 true fun _ v1 => callV a s76 [v1] M n fun v2 M n => VV.onAny v2 (v_ext v2 0 fun v3 => v_ext v2 1 fun v4 => VV.onAny v3 (VV.onAny v4 (e.setK q4 v3 fun e => e.setK q3 v4 fun e => k e M n)))
def R33_2 : RegF := fun a e M n k => e.getK q3 fun v0 => VV.onAny v0 (v_ne v0 (.i (.ofNat 0)) fun v1 => e.setK q6 v1 fun e => k e M n)
def R33_3 : RegF := fun a e M n k => e.getK q4 fun v0 => e.getK q1 fun v1 => e.getK q2 fun v2 => VV.onAny v0 (VV.onAny v1 (VV.onAny v2 (callV a s77 [v0, v1, v2] M n fun v3 M n => k e M n)))
def R33_4 : RegF := fun a e M n k => e.getK q4 fun v0 => (fun M0 => VV.onAny v0 (v_nck v0 fun v1 => v_fa v1 1 fun v2 => ldV M v2 1 false fun bv3 v3 => VV.onAny v0 (v_nck v0 fun v4 => v_fa v4 0 fun v5 => ldW M v5 1 false fun _ v6 => callV a s15 [v6] M n fun v7 M n => VV.onAny v0 (v_nck v0 fun v8 => v_fa v8 0 fun v9 => ldV M v9 1 false fun bv10 v10 => callV a s78 [v10] M n fun v11 M n => VV.onAny v3 (VV.onAny v7 (VV.onAny v11 (VV.onAny (.i (.ofNat 0)) (Bool.rec false (e.setK q7 v3 fun e => e.setK q8 v7 fun e => e.setK q9 v11 fun e => e.setK q10 (.i (.ofNat 0)) fun e => k e M n) (keptB M0 M (bv10 :: (bv3 :: []))))))))))) M
def R33_5 : RegF := fun a e M n k => e.getK q3 fun v0 => VV.onAny v0 (VV.onAny (.nils) (VV.onAny (.nils) (VV.onAny (.nils) (VV.onAny v0 (e.setK q7 (.nils) fun e => e.setK q8 (.nils) fun e => e.setK q9 (.nils) fun e => e.setK q10 v0 fun e => k e M n)))))
def S33 : List (P × I) := [(s0, q0), (s1, q1), (s2, q2), (s11, q3), (s10, q4), (s3, q5), (s18, q6), (s6, q7), (s7, q8), (s8, q9), (s9, q10)]
def G33 : F2 := .mk (fun a e M n k => R33_0 a e M n fun e M n => R33_1 a e M n fun e M n => R33_2 a e M n fun e M n => e.getK q6 fun v => v.onB fun c => Bool.rec (R33_3 a e M n fun e M n => R33_4 a e M n fun e M n => k .r e M n) (R33_5 a e M n fun e M n => k .r e M n) c) [.t q7, .t q8, .t q9, .t q10] [q0, q1, q2]
def R34_0 : RegF := fun a e M n k => alV 28 [.nils, .nils, .nils, .nils, (.i (.ofNat 0)), (.i (.ofNat 0))] M n fun v0 M n => e.setK q0 v0 fun e => k e M n
def R34_1 : RegF := fun a e M n k => v_bld [(.i (.ofNat 0)), (.i (.ofNat 0)), (.i (.ofNat 0)), (.i (.ofNat 0)), (.i (.ofNat 0)), (.i (.ofNat 0)), (.i (.ofNat 0)), (.str []), (.str [])] [(0, 1, (.i (.ofNat 2)))] fun v0 => v_bld [(.i (.ofNat 0)), (.i (.ofNat 0)), (.i (.ofNat 0)), (.i (.ofNat 0)), (.i (.ofNat 0)), (.i (.ofNat 0)), (.i (.ofNat 0)), (.str []), (.str [])] [(0, 1, (.i (.ofNat 1))), (1, 1, (.i (.ofNat 3)))] fun v1 => v_bld [(.i (.ofNat 0)), (.i (.ofNat 0)), (.i (.ofNat 0)), (.i (.ofNat 0)), (.i (.ofNat 0)), (.i (.ofNat 0)), (.i (.ofNat 0)), (.str []), (.str [])] [(0, 1, (.i (.ofNat 3)))] fun v2 => bslV 66 9 3 (rep 7 (.i (.ofNat 0)) ++ [(.str []), (.str [])] ++ rep 7 (.i (.ofNat 0)) ++ [(.str []), (.str [])] ++ rep 7 (.i (.ofNat 0)) ++ [(.str []), (.str [])]) [(0, 9, v0), (9, 9, v1), (18, 9, v2)] M n fun v3 M n => VV.onAny v3 (e.setK q2 v3 fun e => k e M n)
def R34_2 : RegF := fun a e M n k => v_bld [(.i (.ofNat 0)), (.i (.ofNat 0)), (.i (.ofNat 0)), (.i (.ofNat 0)), (.i (.ofNat 0)), (.i (.ofNat 0)), (.i (.ofNat 0)), (.str []), (.str [])] [(0, 1, (.i (.ofNat 2)))] fun v0 => v_bld [(.i (.ofNat 0)), (.i (.ofNat 0)), (.i (.ofNat 0)), (.i (.ofNat 0)), (.i (.ofNat 0)), (.i (.ofNat 0)), (.i (.ofNat 0)), (.str []), (.str [])] [(0, 1, (.i (.ofNat 3)))] fun v1 => bslV 66 9 2 (rep 7 (.i (.ofNat 0)) ++ [(.str []), (.str [])] ++ rep 7 (.i (.ofNat 0)) ++ [(.str []), (.str [])]) [(0, 9, v0), (9, 9, v1)] M n fun v2 M n => VV.onAny v2 (e.setK q1 v2 fun e => k e M n)
def R34_3 : RegF := fun a e M n k => e.getK q1 fun v0 => e.getK q2 fun v1 => e.getK q0 fun v2 => v_bld [(.i (.ofNat 0)), (.i (.ofNat 0))] [(0, 1, (.i (.ofNat 1))), (1, 1, (.i (.ofNat 9)))] fun v3 => bslV 175 2 1 [(.i (.ofNat 0)), (.i (.ofNat 0))] [(0, 2, v3)] M n fun v4 M n => bslV 3 1 1 [(.i (.ofNat 0))] [(0, 1, (.i (.ofNat 0)))] M n fun v5 M n => VV.onAny v0 (v_bld [(.i (.ofNat 0)), (.i (.ofNat 0)), (.i (.ofNat 0)), (.i (.ofNat 0)), (.i (.ofNat 0)), (.i (.ofNat 0)), .nils, .nils] [(0, 1, (.i (.ofNat 2))), (1, 1, (.i (.ofNat 9))), (2, 1, (.i (.ofNat 50))), (3, 1, (.i (.ofNat 40))), (4, 1, (.i (.ofNat 5))), (5, 1, (.i (.negSucc 0))), (6, 1, v5), (7, 1, v0)] fun v6 => bslV 32 8 1 [(.i (.ofNat 0)), (.i (.ofNat 0)), (.i (.ofNat 0)), (.i (.ofNat 0)), (.i (.ofNat 0)), (.i (.ofNat 0)), .nils, .nils] [(0, 8, v6)] M n fun v7 M n => VV.onAny v1 (v_bld [(.i (.ofNat 0)), .nils] [(1, 1, v1)] fun v8 => bslV 68 2 1 [(.i (.ofNat 0)), .nils] [(0, 2, v8)] M n fun v9 M n => v_bld [.nils, .nils, .nils, .nils, (.i (.ofNat 0)), (.i (.ofNat 0))] [(4, 1, (.i (.ofNat 8))), (5, 1, (.i (.ofNat 100))), (2, 1, v4), (0, 1, v7), (1, 1, v9)] fun v10 => stV M v2 v10 6 fun M => k e M n))
def S34 : List (P × I) := [(s0, q0), (s2, q1), (s1, q2)]
def G34 : F2 := .mk (fun a e M n k => R34_0 a e M n fun e M n => R34_1 a e M n fun e M n => R34_2 a e M n fun e M n => R34_3 a e M n fun e M n => k .r e M n) [.c q0 6 true] []
def R35_0 : RegF := fun a e M n k => VV.onAny (.bool false) (e.setK q6 (.bool false) fun e => k e M n)
def R35_1 : RegF := fun a e M n k => e.getK q0 fun v0 => e.getK q1 fun v1 => VV.onAny v0 (v_lenS v0 fun v2 => VV.onAny v1 (v_lenS v1 fun v3 => v_ne v2 v3 fun v4 => e.setK q3 v4 fun e => k e M n))
def R35_2 : RegF := fun a e M n k => VV.onAny (.bool true) (e.setK q6 (.bool true) fun e => k e M n)
def R35_3 : RegF := fun a e M n k => VV.onAny (.i (.ofNat 0)) (e.setK q2 (.i (.ofNat 0)) fun e => k e M n)
def R35_4 : RegF := fun a e M n k => e.getK q2 fun v0 => e.getK q0 fun v1 => VV.onAny v0 (VV.onAny v1 (v_lenS v1 fun v2 => v_lt v0 v2 fun v3 => e.setK q4 v3 fun e => k e M n))
def R35_5 : RegF := fun a e M n k => e.getK q0 fun v0 => e.getK q2 fun v1 => e.getK q1 fun v2 => (fun M0 => VV.onAny v0 (VV.onAny v1 (v_ixS v0 v1 2 fun v3 => ldW M v3 2 true fun _ v4 => VV.onAny v2 (VV.onAny v1 (v_ixS v2 v1 2 fun v5 => ldW M v5 2 true fun _ v6 => v_aeq true [(0, .i), (1, .b)] v4 v6 fun v7 => Bool.rec false (e.setK q5 v7 fun e => k e M n) (keptB M0 M [])))))) M
def R35_6 : RegF := fun a e M n k => e.getK q2 fun v0 => VV.onAny v0 (v_add v0 (.i (.ofNat 1)) fun v1 => VV.onAny v1 (e.setK q2 v1 fun e => k e M n))
def R35_7 : RegF := fun a e M n k => VV.onAny (.bool false) (e.setK q6 (.bool false) fun e => k e M n)
def R35_8 : RegF := fun a e M n k => VV.onAny (.bool false) (e.setK q6 (.bool false) fun e => k e M n)
def S35 : List (P × I) := [(s0, q0), (s1, q1), (s5, q2), (s10, q3), (s14, q4), (s25, q5), (s4, q6)]
def G35 : F2 := .mk (fun a e M n k => R35_0 a e M n fun e M n => R35_1 a e M n fun e M n => e.getK q3 fun v => v.onB fun c => Bool.rec ((fun (j0 : En → Mem → P → Bool) => R35_3 a e M n fun e M n => (fun (j1 : En → Mem → P → Bool) => loopK (fun a e M n k => R35_4 a e M n fun e M n => e.getK q4 fun v => v.onB fun c => Bool.rec (k (.x 0) e M n) (R35_5 a e M n fun e M n => e.getK q5 fun v => v.onB fun c => Bool.rec (R35_6 a e M n fun e M n => k .n e M n) (R35_7 a e M n fun e M n => k .r e M n) c) c) a e M n fun ex e M n => Ex.rec (j1 e M n) (k .r e M n) (fun id => Bool.rec (k (.x id) e M n) (j1 e M n) (Nat.beq id 0)) ex) fun e M n => j0 e M n) fun e M n => R35_2 a e M n fun e M n => k .r e M n) (R35_8 a e M n fun e M n => k .r e M n) c) [.t q6] [q0, q1]
def R36_0 : RegF := fun a e M n k => e.getK q0 fun v0 => bxV 60 v0 M n fun v1 M n => VV.onAny (.bool false) (e.setK q1 v1 fun e => e.setK q2 (.bool false) fun e => k e M n)
def R36_1 : RegF := fun a e M n k => e.getK q1 fun v0 => v_fa v0 3 fun v1 => ldW M v1 1 false fun _ v2 => v_fa v0 2 fun v3 => ldW M v3 1 false fun _ v4 => v_lt v4 v2 fun v5 => VV.onAny v5 (e.setK q2 v5 fun e => k e M n)
def S36 : List (P × I) := [(s0, q0), (s1, q1), (s2, q2)]
def G36 : F2 := .mk (fun a e M n k => R36_0 a e M n fun e M n => R36_1 a e M n fun e M n => k .r e M n) [.t q2] [q0]
def R37_0 : RegF := fun a e M n k => e.getK q0 fun v0 => bxV 47 v0 M n fun v1 M n => VV.onAny (.bool false) (e.setK q1 v1 fun e => e.setK q2 (.bool false) fun e => k e M n)
def R37_1 : RegF := fun a e M n k => e.getK q1 fun v0 => (fun M0 => ldW M v0 5 true fun _ v1 => callV a s80 [v1] M n fun v2 M n => v_fa v0 2 fun v3 => ldV M v3 1 false fun bv4 v4 => v_fa v0 1 fun v5 => ldV M v5 1 false fun bv6 v6 => v_lenS v6 fun v7 => callV a s79 [v2, v4, v7] M n fun v8 M n => VV.onAny v8 (Bool.rec false (e.setK q2 v8 fun e => k e M n) (keptB M0 M (bv6 :: (bv4 :: []))))) M
def S37 : List (P × I) := [(s0, q0), (s1, q1), (s2, q2)]
def G37 : F2 := .mk (fun a e M n k => R37_0 a e M n fun e M n => R37_1 a e M n fun e M n => k .r e M n) [.t q2] [q0]
def R38_0 : RegF := fun a e M n k => e.getK q0 fun v0 => bxV 28 v0 M n fun v1 M n => VV.onAny (.bool false) (e.setK q1 v1 fun e => e.setK q18 (.bool false) fun e => k e M n)
def R38_1 : RegF := fun a e M n k => e.getK q1 fun v0 => v_fa v0 0 fun v1 => ldW M v1 1 false fun _ v2 => v_lenS v2 fun v3 => v_lt (.i (.ofNat 8)) v3 fun v4 => VV.onAny v4 (gdK v4 false .off M n (fun j => v_fa v0 1 fun v => j v M n) fun v5 M n => gdK v4 false .off M n (fun j => ldW M v5 1 false fun _ v => j v M n) fun v6 M n => gdK v4 false .off M n (fun j => v_lenS v6 fun v => j v M n) fun v7 M n => gdK v4 false .off M n (fun j => v_lt (.i (.ofNat 6)) v7 fun v => j v M n) fun v8 M n => v_pick v4 (.bool true) v8 fun v9 => VV.onAny v9 (gdK v9 false .off M n (fun j => v_fa v0 3 fun v => j v M n) fun v10 M n => gdK v9 false .off M n (fun j => ldW M v10 1 false fun _ v => j v M n) fun v11 M n => gdK v9 false .off M n (fun j => v_lenS v11 fun v => j v M n) fun v12 M n => gdK v9 false .off M n (fun j => v_lt (.i (.ofNat 4)) v12 fun v => j v M n) fun v13 M n => v_pick v9 (.bool true) v13 fun v14 => VV.onAny v14 (gdK v14 false .off M n (fun j => v_fa v0 4 fun v => j v M n) fun v15 M n => gdK v14 false .off M n (fun j => ldW M v15 1 false fun _ v => j v M n) fun v16 M n => gdK v14 false .no M n (fun j => callV a s81 [v16, (.i (.ofNat 8)), (.i (.ofNat 64))] M n fun v M n => j v M n) fun v17 M n => gdK v14 false .off M n (fun j => v_not v17 fun v => j v M n) fun v18 M n => v_pick v14 (.bool true) v18 fun v19 => VV.onAny v19 (gdK v19 false .off M n (fun j => v_fa v0 5 fun v => j v M n) fun v20 M n => gdK v19 false .off M n (fun j => ldW M v20 1 false fun _ v => j v M n) fun v21 M n => gdK v19 false .no M n (fun j => callV a s81 [v21, (.i (.ofNat 1)), (.i (.ofNat 1099511627776))] M n fun v M n => j v M n) fun v22 M n => gdK v19 false .off M n (fun j => v_not v22 fun v => j v M n) fun v23 M n => v_pick v19 (.bool true) v23 fun v24 => e.setK q6 v24 fun e => k e M n))))
def R38_2 : RegF := fun a e M n k => VV.onAny (.bool false) (e.setK q18 (.bool false) fun e => k e M n)
def R38_3 : RegF := fun a e M n k => e.getK q1 fun v0 => v_fa v0 2 fun v1 => ldW M v1 1 false fun _ v2 => callV a s44 [v2] M n fun v3 M n => VV.onAny v3 (v_ext v3 0 fun v4 => v_ext v3 1 fun v5 => VV.onAny v4 (VV.onAny v5 (e.setK q7 v5 fun e => k e M n)))
def R38_4 : RegF := fun a e M n k => e.getK q7 fun v0 => VV.onAny v0 (v_ne v0 (.i (.ofNat 0)) fun v1 => e.setK q8 v1 fun e => k e M n)
def R38_5 : RegF := fun a e M n k => VV.onAny (.bool false) (e.setK q18 (.bool false) fun e => k e M n)
def R38_6 : RegF := fun a e M n k => mkmV M n fun v0 M n => VV.onAny v0 (e.setK q5 v0 fun e => k e M n)
def R38_7 : RegF := fun a e M n k => e.getK q1 fun v0 => v_fa v0 0 fun v1 => ldW M v1 1 false fun _ v2 => v_lenS v2 fun v3 => VV.onAny (.i (.ofNat 0)) (e.setK q11 v2 fun e => e.setK q9 v3 fun e => e.setK q2 (.i (.ofNat 0)) fun e => k e M n)
def R38_8 : RegF := fun a e M n k => e.getK q2 fun v0 => e.getK q9 fun v1 => v_lt v0 v1 fun v2 => e.setK q10 v2 fun e => k e M n
def R38_9 : RegF := fun a e M n k => e.getK q11 fun v0 => e.getK q2 fun v1 => v_ixS v0 v1 8 fun v2 => ldW M v2 8 true fun _ v3 => alV 32 [(.i (.ofNat 0)), (.i (.ofNat 0)), (.i (.ofNat 0)), (.i (.ofNat 0)), (.i (.ofNat 0)), (.i (.ofNat 0)), .nils, .nils] M n fun v4 M n => stV M v4 v3 8 fun M => e.setK q4 v4 fun e => k e M n
def R38_10 : RegF := fun a e M n k => e.getK q1 fun v0 => e.getK q4 fun v1 => e.getK q5 fun v2 => ldW M v0 6 true fun _ v3 => ldW M v1 8 true fun _ v4 => callV a s82 [v3, v4] M n fun v5 M n => v_not v5 fun v6 => VV.onAny v6 (gdK v6 false .off M n (fun j => v_fa v1 5 fun v => j v M n) fun v7 M n => gdK v6 false .off M n (fun j => ldW M v7 1 false fun _ v => j v M n) fun v8 M n => gdK v6 false .off M n (fun j => v_le (.i (.ofNat 0)) v8 fun v => j v M n) fun v9 M n => gdK v6 false .off M n (fun j => v_mv v9 fun v => j v M n) fun v10 M n => gdK v10 true .off M n (fun j => v_mv v2 fun v => j v M n) fun v11 M n => gdK v10 true .off M n (fun j => v_fa v1 5 fun v => j v M n) fun v12 M n => gdK v10 true .off M n (fun j => ldW M v12 1 false fun _ v => j v M n) fun v13 M n => gdK v10 true .no M n (fun j => lkuV (.i (.ofNat 0)) false v11 v13 M fun v => j v M n) fun v14 M n => gdK v10 true .off M n (fun j => v_lt (.i (.ofNat 0)) v14 fun v => j v M n) fun v15 M n => gdK v6 false .off M n (fun j => v_pick v10 v15 (.bool false) fun v => j v M n) fun v16 M n => v_pick v6 (.bool true) v16 fun v17 => e.setK q12 v17 fun e => k e M n)
def R38_11 : RegF := fun a e M n k => VV.onAny (.bool false) (e.setK q18 (.bool false) fun e => k e M n)
def R38_12 : RegF := fun a e M n k => e.getK q5 fun v0 => e.getK q4 fun v1 => VV.onAny v0 (v_fa v1 5 fun v2 => ldW M v2 1 false fun _ v3 => lkuV (.i (.ofNat 0)) false v0 v3 M fun v4 => v_add v4 (.i (.ofNat 1)) fun v5 => mupV v0 v3 v5 M fun M => k e M n)
def R38_13 : RegF := fun a e M n k => e.getK q2 fun v0 => v_add v0 (.i (.ofNat 1)) fun v1 => VV.onAny v1 (e.setK q2 v1 fun e => k e M n)
def R38_14 : RegF := fun a e M n k => e.getK q1 fun v0 => v_fa v0 1 fun v1 => ldW M v1 1 false fun _ v2 => v_lenS v2 fun v3 => VV.onAny (.i (.ofNat 0)) (e.setK q15 v2 fun e => e.setK q13 v3 fun e => e.setK q3 (.i (.ofNat 0)) fun e => k e M n)
def R38_15 : RegF := fun a e M n k => e.getK q3 fun v0 => e.getK q13 fun v1 => v_lt v0 v1 fun v2 => e.setK q14 v2 fun e => k e M n
def R38_16 : RegF := fun a e M n k => e.getK q15 fun v0 => e.getK q3 fun v1 => v_ixS v0 v1 2 fun v2 => ldW M v2 2 true fun _ v3 => alV 68 [(.i (.ofNat 0)), .nils] M n fun v4 M n => stV M v4 v3 2 fun M => e.setK q16 v4 fun e => k e M n
def R38_17 : RegF := fun a e M n k => e.getK q16 fun v0 => v_fa v0 0 fun v1 => ldW M v1 1 false fun _ v2 => callV a s81 [v2, (.i (.ofNat 0)), (.i (.ofNat 15))] M n fun v3 M n => v_not v3 fun v4 => VV.onAny v4 (gdK v4 false .off M n (fun j => v_fa v0 1 fun v => j v M n) fun v5 M n => gdK v4 false .off M n (fun j => ldW M v5 1 false fun _ v => j v M n) fun v6 M n => gdK v4 false .off M n (fun j => v_lenS v6 fun v => j v M n) fun v7 M n => gdK v4 false .off M n (fun j => v_lt (.i (.ofNat 40)) v7 fun v => j v M n) fun v8 M n => v_pick v4 (.bool true) v8 fun v9 => e.setK q17 v9 fun e => k e M n)
def R38_18 : RegF := fun a e M n k => VV.onAny (.bool false) (e.setK q18 (.bool false) fun e => k e M n)
def R38_19 : RegF := fun a e M n k => e.getK q3 fun v0 => v_add v0 (.i (.ofNat 1)) fun v1 => VV.onAny v1 (e.setK q3 v1 fun e => k e M n)
def R38_20 : RegF := fun a e M n k => e.getK q1 fun v0 => v_fa v0 3 fun v1 => ldW M v1 1 false fun _ v2 => callV a s83 [v2, (.fn s84 [] [])] M n fun v3 M n => v_not v3 fun v4 => VV.onAny v4 (e.setK q18 v4 fun e => k e M n)
def S38 : List (P × I) := [(s0, q0), (s1, q1), (s50, q2), (s79, q3), (s7, q4), (s5, q5), (s37, q6), (s4, q7), (s45, q8), (s49, q9), (s51, q10), (s48, q11), (s69, q12), (s78, q13), (s80, q14), (s77, q15), (s9, q16), (s92, q17), (s2, q18)]
def G38 : F2 := .mk ((c_seq (c_fn R38_0) (c_seq (c_seq (c_fn R38_1) (c_cond (.t q6) (c_seq (c_fn R38_2) c_ret) c_skip)) (c_seq (c_seq (c_fn R38_3) (c_seq (c_fn R38_4) (c_cond (.t q8) (c_seq (c_fn R38_5) c_ret) c_skip))) (c_seq (c_fn R38_6) (c_seq (c_seq (c_fn R38_7) (c_blk 0 (loopK (c_seq (c_fn R38_8) (c_seq (c_cond (.t q10) c_skip (c_exit 0)) (c_seq (c_blk 1 (c_seq (c_fn R38_9) (c_seq (c_seq (c_fn R38_10) (c_cond (.t q12) (c_seq (c_fn R38_11) c_ret) c_skip)) (c_fn R38_12)))) (c_fn R38_13))))))) (c_seq (c_seq (c_fn R38_14) (c_blk 2 (loopK (c_seq (c_fn R38_15) (c_seq (c_cond (.t q14) c_skip (c_exit 2)) (c_seq (c_blk 3 (c_seq (c_fn R38_16) (c_seq (c_fn R38_17) (c_cond (.t q17) (c_seq (c_fn R38_18) c_ret) c_skip)))) (c_fn R38_19))))))) (c_seq (c_fn R38_20) c_ret)))))))) [.t q18] [q0]
def R39_0 : RegF := fun a e M n k => VV.onAny (.nils) (e.setK q2 (.nils) fun e => k e M n)
def R39_1 : RegF := fun a e M n k => e.getK q0 fun v0 => VV.onAny v0 (v_nqS false v0 fun v1 => e.setK q1 v1 fun e => k e M n)
def R39_2 : RegF := fun a e M n k => e.getK q0 fun v0 => bslV 3 1 0 [] [] M n fun v1 M n => VV.onAny v0 (appV 3 1 8 v1 v0 M n fun v2 M n => VV.onAny v2 (e.setK q2 v2 fun e => k e M n))
def R39_3 : RegF := fun a e M n k => VV.onAny (.nils) (e.setK q2 (.nils) fun e => k e M n)
def S39 : List (P × I) := [(s0, q0), (s4, q1), (s2, q2)]
def G39 : F2 := .mk (fun a e M n k => R39_0 a e M n fun e M n => R39_1 a e M n fun e M n => e.getK q1 fun v => v.onB fun c => Bool.rec (R39_2 a e M n fun e M n => k .r e M n) (R39_3 a e M n fun e M n => k .r e M n) c) [.t q2] [q0]
def R40_0 : RegF := fun a e M n k => e.getK q1 fun v0 => bxV 102 v0 M n fun v1 M n => e.setK q3 v1 fun e => k e M n
def R40_1 : RegF := fun a e M n k => e.getK q0 fun v0 => e.getK q3 fun v1 => (fun M0 => VV.onAny v0 (VV.onAny v0 (v_nck v0 fun v2 => v_fa v2 2 fun v3 => ldW M v3 1 false fun _ v4 => ldW M v1 21 true fun _ v5 => bslV 102 21 1 (rep 9 (.i (.ofNat 0)) ++ [(.bool false), (.i (.ofNat 0)), (.i (.ofNat 0)), (.i (.ofNat 0)), (.str []), (.bool false), (.i (.ofNat 0)), (.i (.ofNat 0)), (.i (.ofNat 0)), (.i (.ofNat 0)), (.i (.ofNat 0)), .nils]) [(0, 21, v5)] M n fun v6 M n => appV 102 21 192 v4 v6 M n fun v7 M n => v_nck v0 fun v8 => v_fa v8 2 fun v9 => Bool.rec false (stV M v9 v7 1 fun M => k e M n) (keptB M0 M [])))) M
def R40_2 : RegF := fun a e M n k => e.getK q0 fun v0 => e.getK q2 fun v1 => VV.onAny v0 (VV.onAny v0 (v_nck v0 fun v2 => v_fa v2 3 fun v3 => ldW M v3 1 false fun _ v4 => VV.onAny v1 (bslV 29 1 1 [.nils] [(0, 1, v1)] M n fun v5 M n => appV 29 1 24 v4 v5 M n fun v6 M n => v_nck v0 fun v7 => v_fa v7 3 fun v8 => stV M v8 v6 1 fun M => k e M n)))
def S40 : List (P × I) := [(s0, q0), (s1, q1), (s2, q2), (s4, q3)]
def G40 : F2 := .mk (fun a e M n k => R40_0 a e M n fun e M n => R40_1 a e M n fun e M n => R40_2 a e M n fun e M n => k .n e M n) [] [q0, q1, q2]
def R41_0 : RegF := fun a e M n k => e.getK q1 fun v0 => bxV 32 v0 M n fun v1 M n => alV 102 (rep 9 (.i (.ofNat 0)) ++ [(.bool false), (.i (.ofNat 0)), (.i (.ofNat 0)), (.i (.ofNat 0)), (.str []), (.bool false), (.i (.ofNat 0)), (.i (.ofNat 0)), (.i (.ofNat 0)), (.i (.ofNat 0)), (.i (.ofNat 0)), .nils]) M n fun v2 M n => e.setK q3 v1 fun e => e.setK q2 v2 fun e => k e M n
def R41_1 : RegF := fun a e M n k => e.getK q0 fun v0 => e.getK q3 fun v1 => e.getK q2 fun v2 => VV.onAny v0 (v_fa v1 0 fun v3 => ldW M v3 1 false fun _ v4 => v_fa v1 1 fun v5 => ldW M v5 1 false fun _ v6 => v_bld [(.i (.ofNat 0)), (.i (.ofNat 0)), (.i (.ofNat 0))] [(0, 1, v4), (1, 1, v6)] fun v7 => callV a s85 [v0, v7, (.i (.ofNat 0))] M n fun v8 M n => stV M v2 v8 21 fun M => k e M n)
def S41 : List (P × I) := [(s0, q0), (s1, q1), (s4, q2), (s3, q3)]
def G41 : F2 := .mk (fun a e M n k => R41_0 a e M n fun e M n => R41_1 a e M n fun e M n => k .r e M n) [.c q2 21 true] [q0, q1]
def R42_0 : RegF := fun a e M n k => VV.onAny (.nils) (e.setK q8 (.nils) fun e => k e M n)
def R42_1 : RegF := fun a e M n k => VV.onAny (.nils) (e.setK q3 (.nils) fun e => k e M n)
def R42_2 : RegF := fun a e M n k => e.getK q3 fun v0 => VV.onAny v0 (VV.onAny v0 (e.setK q8 v0 fun e => k e M n))
def R42_3 : RegF := fun a e M n k => e.getK q0 fun v0 => VV.onAny v0 (VV.onAny v0 (v_lenS v0 fun v1 => v_min v1 (.i (.ofNat 40)) fun v2 => v_slH v0 v2 fun v3 => v_lenS v3 fun v4 => VV.onAny (.i (.ofNat 0)) (e.setK q6 v3 fun e => e.setK q4 v4 fun e => e.setK q1 (.i (.ofNat 0)) fun e => k e M n)))
def R42_4 : RegF := fun a e M n k => e.getK q1 fun v0 => e.getK q4 fun v1 => v_lt v0 v1 fun v2 => e.setK q5 v2 fun e => k e M n
def R42_5 : RegF := fun a e M n k => e.getK q6 fun v0 => e.getK q1 fun v1 => v_ixS v0 v1 9 fun v2 => ldW M v2 9 true fun _ v3 => alV 66 [(.i (.ofNat 0)), (.i (.ofNat 0)), (.i (.ofNat 0)), (.i (.ofNat 0)), (.i (.ofNat 0)), (.i (.ofNat 0)), (.i (.ofNat 0)), (.str []), (.str [])] M n fun v4 M n => stV M v4 v3 9 fun M => e.setK q2 v4 fun e => k e M n
def R42_6 : RegF := fun a e M n k => e.getK q3 fun v0 => e.getK q2 fun v1 => VV.onAny v0 (ldW M v1 9 true fun _ v2 => bslV 66 9 1 [(.i (.ofNat 0)), (.i (.ofNat 0)), (.i (.ofNat 0)), (.i (.ofNat 0)), (.i (.ofNat 0)), (.i (.ofNat 0)), (.i (.ofNat 0)), (.str []), (.str [])] [(0, 9, v2)] M n fun v3 M n => appV 66 9 88 v0 v3 M n fun v4 M n => VV.onAny v4 (e.setK q3 v4 fun e => k e M n))
def R42_7 : RegF := fun a e M n k => e.getK q1 fun v0 => v_add v0 (.i (.ofNat 1)) fun v1 => VV.onAny v1 (e.setK q1 v1 fun e => k e M n)
def R42_8 : RegF := fun a e M n k => e.getK q2 fun v0 => ldW M v0 9 true fun _ v1 => callV a s86 [v1] M n fun v2 M n => v_not v2 fun v3 => e.setK q7 v3 fun e => k e M n
def R42_9 : RegF := fun a e M n k => e.getK q2 fun v0 => v_bld [(.i (.ofNat 0)), (.i (.ofNat 0)), (.i (.ofNat 0)), (.i (.ofNat 0)), (.i (.ofNat 0)), (.i (.ofNat 0)), (.i (.ofNat 0)), (.str []), (.str [])] [] fun v1 => stV M v0 v1 9 fun M => k e M n
def S42 : List (P × I) := [(s0, q0), (s12, q1), (s5, q2), (s3, q3), (s11, q4), (s13, q5), (s10, q6), (s18, q7), (s2, q8)]
def G42 : F2 := .mk (fun a e M n k => R42_0 a e M n fun e M n => R42_1 a e M n fun e M n => (fun (j0 : En → Mem → P → Bool) => R42_3 a e M n fun e M n => (fun (j1 : En → Mem → P → Bool) => loopK (fun a e M n k => R42_4 a e M n fun e M n => e.getK q5 fun v => v.onB fun c => Bool.rec (k (.x 0) e M n) (R42_5 a e M n fun e M n => (fun (j2 : En → Mem → P → Bool) => R42_8 a e M n fun e M n => (fun (j3 : En → Mem → P → Bool) => e.getK q7 fun v => v.onB fun c => Bool.rec (j3 e M n) (R42_9 a e M n fun e M n => j3 e M n) c) fun e M n => j2 e M n) fun e M n => R42_6 a e M n fun e M n => R42_7 a e M n fun e M n => k .n e M n) c) a e M n fun ex e M n => Ex.rec (j1 e M n) (k .r e M n) (fun id => Bool.rec (k (.x id) e M n) (j1 e M n) (Nat.beq id 0)) ex) fun e M n => j0 e M n) fun e M n => R42_2 a e M n fun e M n => k .r e M n) [.t q8] [q0]
def R43_0 : RegF := fun a e M n k => e.getK q1 fun v0 => bxV 68 v0 M n fun v1 M n => alV 102 (rep 9 (.i (.ofNat 0)) ++ [(.bool false), (.i (.ofNat 0)), (.i (.ofNat 0)), (.i (.ofNat 0)), (.str []), (.bool false), (.i (.ofNat 0)), (.i (.ofNat 0)), (.i (.ofNat 0)), (.i (.ofNat 0)), (.i (.ofNat 0)), .nils]) M n fun v2 M n => e.setK q3 v1 fun e => e.setK q2 v2 fun e => k e M n
def R43_1 : RegF := fun a e M n k => e.getK q0 fun v0 => e.getK q3 fun v1 => e.getK q2 fun v2 => VV.onAny v0 (v_fa v1 0 fun v3 => ldW M v3 1 false fun _ v4 => v_bld [(.i (.ofNat 0)), (.i (.ofNat 0)), (.i (.ofNat 0))] [(0, 1, (.i (.ofNat 0))), (1, 1, v4)] fun v5 => callV a s85 [v0, v5, (.i (.ofNat 1))] M n fun v6 M n => stV M v2 v6 21 fun M => k e M n)
def S43 : List (P × I) := [(s0, q0), (s1, q1), (s4, q2), (s3, q3)]
def G43 : F2 := .mk (fun a e M n k => R43_0 a e M n fun e M n => R43_1 a e M n fun e M n => k .r e M n) [.c q2 21 true] [q0, q1]
def R44_0 : RegF := fun a e M n k => VV.onAny (.nil) (VV.onAny (.i (.ofNat 0)) (e.setK q2 (.nil) fun e => e.setK q3 (.i (.ofNat 0)) fun e => k e M n))
def R44_1 : RegF := fun a e M n k => e.getK q0 fun v0 => VV.onAny v0 (v_lenS v0 fun v1 => v_lt (.i (.ofNat 6)) v1 fun v2 => VV.onAny v2 (gdK v2 false .off M n (fun j => v_mv v0 fun v => j v M n) fun v3 M n => gdK v2 false .no M n (fun j => callV a s87 [v3, (.fn s88 [] [])] M n fun v M n => j v M n) fun v4 M n => v_pick v2 (.bool true) v4 fun v5 => e.setK q1 v5 fun e => k e M n))
def R44_2 : RegF := fun a e M n k => e.getK q0 fun v0 => VV.onAny v0 (callV a s90 [v0] M n fun v1 M n => v_bld [.nils] [(0, 1, v1)] fun v2 => bxV 187 v2 M n fun v3 M n => VV.onAny v3 (VV.onAny (.i (.ofNat 0)) (e.setK q2 v3 fun e => e.setK q3 (.i (.ofNat 0)) fun e => k e M n)))
def R44_3 : RegF := fun a e M n k => VV.onAny (.nil) (VV.onAny (.i (.ofNat 2)) (e.setK q2 (.nil) fun e => e.setK q3 (.i (.ofNat 2)) fun e => k e M n))
def S44 : List (P × I) := [(s0, q0), (s10, q1), (s2, q2), (s3, q3)]
def G44 : F2 := .mk (fun a e M n k => R44_0 a e M n fun e M n => R44_1 a e M n fun e M n => e.getK q1 fun v => v.onB fun c => Bool.rec (R44_2 a e M n fun e M n => k .r e M n) (R44_3 a e M n fun e M n => k .r e M n) c) [.t q2, .t q3] [q0]
def R45_0 : RegF := fun a e M n k => VV.onAny (.nil) (e.setK q2 (.nil) fun e => k e M n)
def R45_1 : RegF := fun a e M n k => e.getK q0 fun v0 => VV.onAny v0 (mkmV M n fun v1 M n => mkmV M n fun v2 M n => v_bld [.nil, .nilm, .nilm] [(0, 1, v0), (1, 1, v1), (2, 1, v2)] fun v3 => bxV 163 v3 M n fun v4 M n => VV.onAny v4 (e.setK q2 v4 fun e => k e M n))
def R45_2 : RegF := fun a e M n k => e.getK q0 fun v0 => VV.onAny v0 (v_nqP false v0 fun v1 => e.setK q1 v1 fun e => k e M n)
def R45_3 : RegF := fun a e M n k => callV a s44 [(.nils)] M n fun v0 M n => VV.onAny v0 (v_ext v0 0 fun v1 => v_ext v0 1 fun v2 => VV.onAny v1 (e.setK q0 v1 fun e => k e M n))
def S45 : List (P × I) := [(s0, q0), (s4, q1), (s2, q2)]
def G45 : F2 := .mk (fun a e M n k => R45_0 a e M n fun e M n => (fun (j0 : En → Mem → P → Bool) => R45_2 a e M n fun e M n => (fun (j1 : En → Mem → P → Bool) => e.getK q1 fun v => v.onB fun c => Bool.rec (j1 e M n) (R45_3 a e M n fun e M n => j1 e M n) c) fun e M n => j0 e M n) fun e M n => R45_1 a e M n fun e M n => k .r e M n) [.t q2] [q0]
def R46_0 : RegF := fun a e M n k => VV.onAny (.nil) (VV.onAny (.i (.ofNat 0)) (e.setK q2 (.nil) fun e => e.setK q3 (.i (.ofNat 0)) fun e => k e M n))
def R46_1 : RegF := fun a e M n k => e.getK q0 fun v0 => VV.onAny v0 (v_lt v0 (.i (.ofNat 1)) fun v1 => VV.onAny v1 (gdK v1 false .off M n (fun j => v_mv v0 fun v => j v M n) fun v2 M n => gdK v1 false .off M n (fun j => v_lt (.i (.ofNat 4)) v2 fun v => j v M n) fun v3 M n => v_pick v1 (.bool true) v3 fun v4 => e.setK q1 v4 fun e => k e M n))
def R46_2 : RegF := fun a e M n k => e.getK q0 fun v0 => VV.onAny v0 (mksV 26 1 24 [.nils] v0 v0 M n fun v1 M n => v_bld [.nils] [(0, 1, v1)] fun v2 => bxV 190 v2 M n fun v3 M n => VV.onAny v3 (VV.onAny (.i (.ofNat 0)) (e.setK q2 v3 fun e => e.setK q3 (.i (.ofNat 0)) fun e => k e M n)))
def R46_3 : RegF := fun a e M n k => VV.onAny (.nil) (VV.onAny (.i (.ofNat 2)) (e.setK q2 (.nil) fun e => e.setK q3 (.i (.ofNat 2)) fun e => k e M n))
def S46 : List (P × I) := [(s0, q0), (s9, q1), (s2, q2), (s3, q3)]
def G46 : F2 := .mk (fun a e M n k => R46_0 a e M n fun e M n => R46_1 a e M n fun e M n => e.getK q1 fun v => v.onB fun c => Bool.rec (R46_2 a e M n fun e M n => k .r e M n) (R46_3 a e M n fun e M n => k .r e M n) c) [.t q2, .t q3] [q0]
def R47_0 : RegF := fun a e M n k => VV.onAny (.nil) (VV.onAny (.i (.ofNat 0)) (e.setK q2 (.nil) fun e => e.setK q3 (.i (.ofNat 0)) fun e => k e M n))
def R47_1 : RegF := fun a e M n k => e.getK q0 fun v0 => VV.onAny v0 (v_lt v0 (.i (.ofNat 0)) fun v1 => VV.onAny v1 (gdK v1 false .off M n (fun j => v_mv v0 fun v => j v M n) fun v2 M n => gdK v1 false .off M n (fun j => v_le (.i (.ofNat 16777216)) v2 fun v => j v M n) fun v3 M n => v_pick v1 (.bool true) v3 fun v4 => e.setK q1 v4 fun e => k e M n))
def R47_2 : RegF := fun a e M n k => e.getK q0 fun v0 => VV.onAny v0 (v_bld ([(.i (.ofNat 0))] ++ rep 256 .nils ++ [(.i (.ofNat 0))]) [(0, 1, v0)] fun v1 => bxV 140 v1 M n fun v2 M n => VV.onAny v2 (VV.onAny (.i (.ofNat 0)) (e.setK q2 v2 fun e => e.setK q3 (.i (.ofNat 0)) fun e => k e M n)))
def R47_3 : RegF := fun a e M n k => VV.onAny (.nil) (VV.onAny (.i (.ofNat 2)) (e.setK q2 (.nil) fun e => e.setK q3 (.i (.ofNat 2)) fun e => k e M n))
def S47 : List (P × I) := [(s0, q0), (s9, q1), (s2, q2), (s3, q3)]
def G47 : F2 := .mk (fun a e M n k => R47_0 a e M n fun e M n => R47_1 a e M n fun e M n => e.getK q1 fun v => v.onB fun c => Bool.rec (R47_2 a e M n fun e M n => k .r e M n) (R47_3 a e M n fun e M n => k .r e M n) c) [.t q2, .t q3] [q0]
def R49_0 : RegF := fun a e M n k => VV.onAny (.nil) (VV.onAny (.i (.ofNat 0)) (e.setK q2 (.nil) fun e => e.setK q3 (.i (.ofNat 0)) fun e => k e M n))
def R49_1 : RegF := fun a e M n k => e.getK q0 fun v0 => VV.onAny v0 (v_lt v0 (.i (.ofNat 1)) fun v1 => VV.onAny v1 (gdK v1 false .off M n (fun j => v_mv v0 fun v => j v M n) fun v2 M n => gdK v1 false .off M n (fun j => v_lt (.i (.ofNat 1099511627776)) v2 fun v => j v M n) fun v3 M n => v_pick v1 (.bool true) v3 fun v4 => e.setK q1 v4 fun e => k e M n))
def R49_2 : RegF := fun a e M n k => e.getK q0 fun v0 => VV.onAny v0 (v_bld [(.i (.ofNat 0)), (.i (.ofNat 0)), .nils] [(0, 1, v0)] fun v1 => bxV 158 v1 M n fun v2 M n => VV.onAny v2 (VV.onAny (.i (.ofNat 0)) (e.setK q2 v2 fun e => e.setK q3 (.i (.ofNat 0)) fun e => k e M n)))
def R49_3 : RegF := fun a e M n k => VV.onAny (.nil) (VV.onAny (.i (.ofNat 2)) (e.setK q2 (.nil) fun e => e.setK q3 (.i (.ofNat 2)) fun e => k e M n))
def S49 : List (P × I) := [(s0, q0), (s9, q1), (s2, q2), (s3, q3)]
def G49 : F2 := .mk (fun a e M n k => R49_0 a e M n fun e M n => R49_1 a e M n fun e M n => e.getK q1 fun v => v.onB fun c => Bool.rec (R49_2 a e M n fun e M n => k .r e M n) (R49_3 a e M n fun e M n => k .r e M n) c) [.t q2, .t q3] [q0]
def R50_0 : RegF := fun a e M n k => VV.onAny (.nil) (VV.onAny (.i (.ofNat 0)) (e.setK q5 (.nil) fun e => e.setK q6 (.i (.ofNat 0)) fun e => k e M n))
def R50_1 : RegF := fun a e M n k => e.getK q0 fun v0 => VV.onAny v0 (callV a s91 [v0] M n fun v1 M n => VV.onAny v1 (v_ext v1 0 fun v2 => v_ext v1 1 fun v3 => VV.onAny v2 (VV.onAny v3 (e.setK q2 v2 fun e => e.setK q1 v3 fun e => k e M n))))
def R50_2 : RegF := fun a e M n k => e.getK q1 fun v0 => VV.onAny v0 (v_ne v0 (.i (.ofNat 0)) fun v1 => e.setK q3 v1 fun e => k e M n)
def R50_3 : RegF := fun a e M n k => e.getK q2 fun v0 => VV.onAny v0 (callV a s92 [v0] M n fun v1 M n => VV.onAny v1 (e.setK q4 v1 fun e => k e M n))
def R50_4 : RegF := fun a e M n k => e.getK q2 fun v0 => e.getK q4 fun v1 => VV.onAny v0 (VV.onAny v1 (VV.onAny v1 (VV.onAny v0 (callV a s95 [v0] M n fun v2 M n => callV a s94 [v2] M n fun v3 M n => callV a s93 [v1, v3] M n fun v4 M n => callV a s96 [] M n fun v5 M n => v_bld [.nil, .nil, .nil, .nil] [(0, 1, v0), (1, 1, v1), (2, 1, v4), (3, 1, v5)] fun v6 => bxV 205 v6 M n fun v7 M n => VV.onAny v7 (VV.onAny (.i (.ofNat 0)) (e.setK q5 v7 fun e => e.setK q6 (.i (.ofNat 0)) fun e => k e M n))))))
def R50_5 : RegF := fun a e M n k => e.getK q1 fun v0 => VV.onAny v0 (VV.onAny (.nil) (VV.onAny v0 (e.setK q5 (.nil) fun e => e.setK q6 v0 fun e => k e M n)))
def S50 : List (P × I) := [(s0, q0), (s5, q1), (s4, q2), (s13, q3), (s6, q4), (s2, q5), (s3, q6)]
def G50 : F2 := .mk (fun a e M n k => R50_0 a e M n fun e M n => R50_1 a e M n fun e M n => R50_2 a e M n fun e M n => e.getK q3 fun v => v.onB fun c => Bool.rec (R50_3 a e M n fun e M n => R50_4 a e M n fun e M n => k .r e M n) (R50_5 a e M n fun e M n => k .r e M n) c) [.t q5, .t q6] [q0]
def R51_0 : RegF := fun a e M n k => VV.onAny (.i (.ofNat 0)) (e.setK q5 (.i (.ofNat 0)) fun e => k e M n)
def R51_1 : RegF := fun a e M n k => e.getK q0 fun v0 => VV.onAny v0 (v_nqP false v0 fun v1 => e.setK q3 v1 fun e => k e M n)
def R51_2 : RegF := fun a e M n k => e.getK q0 fun v0 => e.getK q1 fun v1 => VV.onAny v0 (v_nck v0 fun v2 => v_fa v2 3 fun v3 => ldW M v3 1 false fun _ v4 => VV.onAny v1 (callV a s97 [v4, v1, (.i (.negSucc 0))] M n fun v5 M n => VV.onAny v5 (e.setK q2 v5 fun e => k e M n)))
def R51_3 : RegF := fun a e M n k => e.getK q2 fun v0 => VV.onAny v0 (v_ne v0 (.i (.ofNat 0)) fun v1 => e.setK q4 v1 fun e => k e M n)
def R51_4 : RegF := fun a e M n k => e.getK q0 fun v0 => e.getK q1 fun v1 => VV.onAny v0 (v_nck v0 fun v2 => v_fa v2 2 fun v3 => ldW M v3 1 false fun _ v4 => VV.onAny v1 (callV a s98 [v4, v1] M n fun v5 M n => VV.onAny v5 (e.setK q5 v5 fun e => k e M n)))
def R51_5 : RegF := fun a e M n k => e.getK q2 fun v0 => VV.onAny v0 (VV.onAny v0 (e.setK q5 v0 fun e => k e M n))
def R51_6 : RegF := fun a e M n k => VV.onAny (.i (.ofNat 1)) (e.setK q5 (.i (.ofNat 1)) fun e => k e M n)
def S51 : List (P × I) := [(s0, q0), (s1, q1), (s5, q2), (s7, q3), (s15, q4), (s4, q5)]
def G51 : F2 := .mk (fun a e M n k => R51_0 a e M n fun e M n => R51_1 a e M n fun e M n => e.getK q3 fun v => v.onB fun c => Bool.rec (R51_2 a e M n fun e M n => R51_3 a e M n fun e M n => e.getK q4 fun v => v.onB fun c => Bool.rec (R51_4 a e M n fun e M n => k .r e M n) (R51_5 a e M n fun e M n => k .r e M n) c) (R51_6 a e M n fun e M n => k .r e M n) c) [.t q5] [q0, q1]
def R52_0 : RegF := fun a e M n k => VV.onAny (.i (.ofNat 0)) (e.setK q2 (.i (.ofNat 0)) fun e => k e M n)
def R52_1 : RegF := fun a e M n k => e.getK q0 fun v0 => e.getK q1 fun v1 => VV.onAny v0 (VV.onAny v1 (v_mul (.i (.ofNat 6)) v1 fun v2 => v_conv .u64 v2 fun v3 => v_kop .shr v0 v3 fun v4 => v_kop .and v4 (.i (.ofNat 63)) fun v5 => VV.onAny v5 (e.setK q2 v5 fun e => k e M n)))
def S52 : List (P × I) := [(s0, q0), (s1, q1), (s4, q2)]
def G52 : F2 := .mk (fun a e M n k => R52_0 a e M n fun e M n => R52_1 a e M n fun e M n => k .r e M n) [.t q2] [q0, q1]
def R56_0 : RegF := fun a e M n k => e.getK q0 fun v0 => VV.onAny v0 (v_lenS v0 fun v1 => VV.onAny v1 (e.setK q1 v1 fun e => k e M n))
def R56_1 : RegF := fun a e M n k => e.getK q0 fun v0 => e.getK q1 fun v1 => VV.onAny v0 (VV.onAny v1 (VV.onAny v1 (v_conv .u64 v1 fun v2 => callV a s100 [v2] M n fun v3 M n => callV a s99 [v0, (.i (.ofNat 0)), v1, v3] M n fun v4 M n => k e M n)))
def S56 : List (P × I) := [(s0, q0), (s2, q1)]
def G56 : F2 := .mk (fun a e M n k => R56_0 a e M n fun e M n => R56_1 a e M n fun e M n => k .n e M n) [] [q0]
def R58_0 : RegF := fun a e M n k => e.getK q0 fun v0 => e.getK q1 fun v1 => (fun M0 => VV.onAny v0 (v_nck v0 fun v2 => v_fa v2 2 fun v3 => ldW M v3 1 false fun _ v4 => VV.onAny v1 (VV.onAny v0 (v_nck v0 fun v5 => v_fa v5 2 fun v6 => ldW M v6 1 false fun _ v7 => VV.onAny v1 (v_ixS v4 v1 21 fun v8 => v_fa v8 5 fun v9 => stV M v9 (.i (.ofNat 1)) 1 fun M => v_ixS v7 v1 21 fun v10 => v_fa v10 6 fun v11 => Bool.rec false (stV M v11 (.i (.negSucc 0)) 1 fun M => k e M n) (keptB M0 M [])))))) M
def S58 : List (P × I) := [(s0, q0), (s1, q1)]
def G58 : F2 := .mk (fun a e M n k => R58_0 a e M n fun e M n => k .n e M n) [] [q0, q1]
def R61_0 : RegF := fun a e M n k => e.getK q0 fun v0 => e.getK q1 fun v1 => e.getK q2 fun v2 => (fun M0 => VV.onAny v0 (v_nck v0 fun v3 => v_fa v3 2 fun v4 => ldW M v4 1 false fun _ v5 => VV.onAny v1 (v_ixS v5 v1 21 fun v6 => ldW M v6 21 true fun _ v7 => VV.onAny v0 (v_nck v0 fun v8 => v_fa v8 0 fun v9 => ldW M v9 1 false fun _ v10 => VV.onAny v1 (v_ixS v10 v1 8 fun v11 => ldW M v11 8 true fun _ v12 => VV.onAny v2 (callV a s105 [v7, v12, v2] M n fun v13 M n => VV.onAny v13 (v_ext v13 0 fun v14 => v_ext v13 1 fun v15 => alV 102 (rep 9 (.i (.ofNat 0)) ++ [(.bool false), (.i (.ofNat 0)), (.i (.ofNat 0)), (.i (.ofNat 0)), (.str []), (.bool false), (.i (.ofNat 0)), (.i (.ofNat 0)), (.i (.ofNat 0)), (.i (.ofNat 0)), (.i (.ofNat 0)), .nils]) M n fun v16 M n => stV M v16 v14 21 fun M => VV.onAny v15 (Bool.rec false (e.setK q5 v16 fun e => e.setK q3 v15 fun e => k e M n) (keptB M0 M []))))))))) M
def R61_1 : RegF := fun a e M n k => e.getK q3 fun v0 => VV.onAny v0 (e.setK q4 v0 fun e => k e M n)
def R61_2 : RegF := fun a e M n k => e.getK q0 fun v0 => e.getK q1 fun v1 => e.getK q5 fun v2 => (fun M0 => VV.onAny v0 (v_nck v0 fun v3 => v_fa v3 2 fun v4 => ldW M v4 1 false fun _ v5 => VV.onAny v1 (ldW M v2 21 true fun _ v6 => v_ixS v5 v1 21 fun v7 => Bool.rec false (stV M v7 v6 21 fun M => k e M n) (keptB M0 M [])))) M
def S61 : List (P × I) := [(s0, q0), (s1, q1), (s2, q2), (s7, q3), (s27, q4), (s6, q5)]
def G61 : F2 := .mk (fun a e M n k => R61_0 a e M n fun e M n => R61_1 a e M n fun e M n => (fun (j0 : En → Mem → P → Bool) => e.getK q4 fun v => v.onB fun c => Bool.rec (j0 e M n) (R61_2 a e M n fun e M n => j0 e M n) c) fun e M n => k .n e M n) [] [q0, q1, q2]
def R62_0 : RegF := fun a e M n k => VV.onAny (.i (.ofNat 0)) (e.setK q7 (.i (.ofNat 0)) fun e => k e M n)
def R62_1 : RegF := fun a e M n k => VV.onAny (.i (.negSucc 0)) (e.setK q7 (.i (.negSucc 0)) fun e => k e M n)
def R62_2 : RegF := fun a e M n k => e.getK q0 fun v0 => VV.onAny v0 (v_lenS v0 fun v1 => VV.onAny (.i (.ofNat 0)) (e.setK q4 v1 fun e => e.setK q2 (.i (.ofNat 0)) fun e => k e M n))
def R62_3 : RegF := fun a e M n k => e.getK q2 fun v0 => e.getK q4 fun v1 => v_lt v0 v1 fun v2 => e.setK q5 v2 fun e => k e M n
def R62_4 : RegF := fun a e M n k => e.getK q2 fun v0 => VV.onAny v0 (VV.onAny v0 (e.setK q3 v0 fun e => k e M n))
def R62_5 : RegF := fun a e M n k => e.getK q1 fun v0 => e.getK q0 fun v1 => e.getK q3 fun v2 => VV.onAny v0 (VV.onAny v1 (VV.onAny v2 (v_ixS v1 v2 21 fun v3 => ldW M v3 21 true fun _ v4 => cvV a v0 [v4] M n fun v5 M n => e.setK q6 v5 fun e => k e M n)))
def R62_6 : RegF := fun a e M n k => e.getK q2 fun v0 => v_add v0 (.i (.ofNat 1)) fun v1 => VV.onAny v1 (e.setK q2 v1 fun e => k e M n)
def R62_7 : RegF := fun a e M n k => e.getK q3 fun v0 => VV.onAny v0 (VV.onAny v0 (e.setK q7 v0 fun e => k e M n))
def S62 : List (P × I) := [(s0, q0), (s1, q1), (s8, q2), (s5, q3), (s7, q4), (s9, q5), (s16, q6), (s4, q7)]
def G62 : F2 := .mk (fun a e M n k => R62_0 a e M n fun e M n => (fun (j0 : En → Mem → P → Bool) => R62_2 a e M n fun e M n => (fun (j1 : En → Mem → P → Bool) => loopK (fun a e M n k => R62_3 a e M n fun e M n => e.getK q5 fun v => v.onB fun c => Bool.rec (k (.x 0) e M n) (R62_4 a e M n fun e M n => R62_5 a e M n fun e M n => e.getK q6 fun v => v.onB fun c => Bool.rec (R62_6 a e M n fun e M n => k .n e M n) (R62_7 a e M n fun e M n => k .r e M n) c) c) a e M n fun ex e M n => Ex.rec (j1 e M n) (k .r e M n) (fun id => Bool.rec (k (.x id) e M n) (j1 e M n) (Nat.beq id 0)) ex) fun e M n => j0 e M n) fun e M n => R62_1 a e M n fun e M n => k .r e M n) [.t q7] [q0, q1]
def R63_0 : RegF := fun a e M n k => e.getK q0 fun v0 => bxV 102 v0 M n fun v1 M n => VV.onAny (.bool false) (e.setK q1 v1 fun e => e.setK q2 (.bool false) fun e => k e M n)
def R63_1 : RegF := fun a e M n k => e.getK q1 fun v0 => v_fa v0 9 fun v1 => ldW M v1 1 false fun _ v2 => VV.onAny v2 (e.setK q2 v2 fun e => k e M n)
def S63 : List (P × I) := [(s0, q0), (s1, q1), (s2, q2)]
def G63 : F2 := .mk (fun a e M n k => R63_0 a e M n fun e M n => R63_1 a e M n fun e M n => k .r e M n) [.t q2] [q0]
def R64_0 : RegF := fun a e M n k => VV.onAny (.i (.ofNat 0)) (VV.onAny (.bool false) (e.setK q3 (.i (.ofNat 0)) fun e => e.setK q4 (.bool false) fun e => k e M n))
def R64_1 : RegF := fun a e M n k => e.getK q0 fun v0 => VV.onAny v0 (v_nck v0 fun v1 => v_fa v1 18 fun v2 => v_fa v2 2 fun v3 => ldW M v3 1 false fun _ v4 => v_lt (.i (.ofNat 0)) v4 fun v5 => e.setK q1 v5 fun e => k e M n)
def R64_2 : RegF := fun a e M n k => e.getK q0 fun v0 => VV.onAny v0 (v_nck v0 fun v1 => v_fa v1 8 fun v2 => ldW M v2 1 false fun _ v3 => callV a s106 [v3, (.fn s107 [] [])] M n fun v4 M n => VV.onAny v4 (e.setK q2 v4 fun e => k e M n))
def R64_3 : RegF := fun a e M n k => e.getK q2 fun v0 => VV.onAny v0 (VV.onAny v0 (v_le (.i (.ofNat 0)) v0 fun v1 => VV.onAny v0 (VV.onAny v1 (e.setK q3 v0 fun e => e.setK q4 v1 fun e => k e M n))))
def R64_4 : RegF := fun a e M n k => e.getK q0 fun v0 => VV.onAny v0 (v_nck v0 fun v1 => v_fa v1 18 fun v2 => v_fa v2 0 fun v3 => ldW M v3 1 false fun _ v4 => VV.onAny v4 (VV.onAny (.bool true) (e.setK q3 v4 fun e => e.setK q4 (.bool true) fun e => k e M n)))
def S64 : List (P × I) := [(s0, q0), (s10, q1), (s4, q2), (s2, q3), (s3, q4)]
def G64 : F2 := .mk (fun a e M n k => R64_0 a e M n fun e M n => R64_1 a e M n fun e M n => e.getK q1 fun v => v.onB fun c => Bool.rec (R64_2 a e M n fun e M n => R64_3 a e M n fun e M n => k .r e M n) (R64_4 a e M n fun e M n => k .r e M n) c) [.t q3, .t q4] [q0]
def R66_0 : RegF := fun a e M n k => VV.onAny (.i (.ofNat 0)) (e.setK q8 (.i (.ofNat 0)) fun e => k e M n)
def R66_1 : RegF := fun a e M n k => e.getK q0 fun v0 => VV.onAny v0 (callV a s109 [v0] M n fun v1 M n => VV.onAny v1 (v_ext v1 0 fun v2 => v_ext v1 1 fun v3 => VV.onAny v2 (VV.onAny v3 (e.setK q1 v2 fun e => e.setK q3 v3 fun e => k e M n))))
def R66_2 : RegF := fun a e M n k => e.getK q3 fun v0 => VV.onAny v0 (v_not v0 fun v1 => e.setK q4 v1 fun e => k e M n)
def R66_3 : RegF := fun a e M n k => e.getK q0 fun v0 => e.getK q1 fun v1 => VV.onAny v0 (VV.onAny v1 (callV a s110 [v0, v1] M n fun v2 M n => VV.onAny v2 (v_ext v2 0 fun v3 => v_ext v2 1 fun v4 => VV.onAny v3 (VV.onAny v4 (e.setK q2 v3 fun e => e.setK q5 v4 fun e => k e M n)))))
def R66_4 : RegF := fun a e M n k => e.getK q5 fun v0 => VV.onAny v0 (e.setK q6 v0 fun e => k e M n)
def R66_5 : RegF := fun a e M n k => e.getK q0 fun v0 => e.getK q1 fun v1 => VV.onAny v0 (VV.onAny v1 (callV a s112 [v0, v1] M n fun v2 M n => v_not v2 fun v3 => e.setK q7 v3 fun e => k e M n))
def R66_6 : RegF := fun a e M n k => e.getK q0 fun v0 => e.getK q1 fun v1 => VV.onAny v0 (VV.onAny v1 (VV.onAny v0 (v_nck v0 fun v2 => v_fa v2 1 fun v3 => ldW M v3 1 false fun _ v4 => callV a s113 [v0, v1, v4] M n fun v5 M n => k e M n)))
def R66_7 : RegF := fun a e M n k => e.getK q1 fun v0 => VV.onAny v0 (VV.onAny v0 (e.setK q8 v0 fun e => k e M n))
def R66_8 : RegF := fun a e M n k => e.getK q0 fun v0 => e.getK q1 fun v1 => e.getK q2 fun v2 => VV.onAny v0 (v_nck v0 fun v3 => v_fa v3 5 fun v4 => ldW M v4 1 false fun _ v5 => VV.onAny v1 (VV.onAny v2 (callV a s111 [v5, v1, v2] M n fun v6 M n => k e M n)))
def R66_9 : RegF := fun a e M n k => e.getK q0 fun v0 => e.getK q1 fun v1 => e.getK q2 fun v2 => (fun M0 => VV.onAny v0 (v_nck v0 fun v3 => v_fa v3 2 fun v4 => ldW M v4 1 false fun _ v5 => VV.onAny v1 (VV.onAny v0 (v_nck v0 fun v6 => v_fa v6 2 fun v7 => ldW M v7 1 false fun _ v8 => VV.onAny v1 (VV.onAny v2 (v_ixS v5 v1 21 fun v9 => v_fa v9 5 fun v10 => stV M v10 (.i (.ofNat 2)) 1 fun M => v_ixS v8 v1 21 fun v11 => v_fa v11 6 fun v12 => Bool.rec false (stV M v12 v2 1 fun M => k e M n) (keptB M0 M []))))))) M
def R66_10 : RegF := fun a e M n k => VV.onAny (.i (.negSucc 0)) (e.setK q8 (.i (.negSucc 0)) fun e => k e M n)
def S66 : List (P × I) := [(s0, q0), (s3, q1), (s5, q2), (s4, q3), (s13, q4), (s6, q5), (s20, q6), (s46, q7), (s2, q8)]
def G66 : F2 := .mk (fun a e M n k => R66_0 a e M n fun e M n => (fun (j0 : En → Mem → P → Bool) => loopK (fun a e M n k => (fun (j1 : En → Mem → P → Bool) => R66_1 a e M n fun e M n => R66_2 a e M n fun e M n => e.getK q4 fun v => v.onB fun c => Bool.rec (R66_3 a e M n fun e M n => R66_4 a e M n fun e M n => e.getK q6 fun v => v.onB fun c => Bool.rec (R66_5 a e M n fun e M n => e.getK q7 fun v => v.onB fun c => Bool.rec (R66_6 a e M n fun e M n => j1 e M n) (R66_7 a e M n fun e M n => k .r e M n) c) (R66_8 a e M n fun e M n => R66_9 a e M n fun e M n => j1 e M n) c) (R66_10 a e M n fun e M n => k .r e M n) c) fun e M n => k .n e M n) a e M n fun ex e M n => Ex.rec (j0 e M n) (k .r e M n) (fun id => Bool.rec (k (.x id) e M n) (j0 e M n) (Nat.beq id 0)) ex) fun e M n => k .n e M n) [.t q8] [q0]
def R67_0 : RegF := fun a e M n k => e.getK q0 fun v0 => bxV 102 v0 M n fun v1 M n => alV 102 (rep 9 (.i (.ofNat 0)) ++ [(.bool false), (.i (.ofNat 0)), (.i (.ofNat 0)), (.i (.ofNat 0)), (.str []), (.bool false), (.i (.ofNat 0)), (.i (.ofNat 0)), (.i (.ofNat 0)), (.i (.ofNat 0)), (.i (.ofNat 0)), .nils]) M n fun v2 M n => e.setK q2 v1 fun e => e.setK q3 v2 fun e => k e M n
def R67_1 : RegF := fun a e M n k => e.getK q2 fun v0 => e.getK q1 fun v1 => v_fa v0 17 fun v2 => ldW M v2 1 false fun _ v3 => VV.onAny v1 (bslV 3 1 2 [(.i (.ofNat 0)), (.i (.ofNat 0))] [(0, 1, v3), (1, 1, v1)] M n fun v4 M n => callV a s104 [v4] M n fun v5 M n => v_fa v0 17 fun v6 => stV M v6 v5 1 fun M => k e M n)
def R67_2 : RegF := fun a e M n k => e.getK q2 fun v0 => e.getK q3 fun v1 => ldW M v0 21 true fun _ v2 => callV a s114 [v2] M n fun v3 M n => stV M v1 v3 21 fun M => k e M n
def S67 : List (P × I) := [(s0, q0), (s1, q1), (s2, q2), (s4, q3)]
def G67 : F2 := .mk (fun a e M n k => R67_0 a e M n fun e M n => R67_1 a e M n fun e M n => R67_2 a e M n fun e M n => k .r e M n) [.c q3 21 true] [q0, q1]
def R68_0 : RegF := fun a e M n k => e.getK q0 fun v0 => VV.onAny v0 (v_nqP false v0 fun v1 => e.setK q4 v1 fun e => k e M n)
def R68_1 : RegF := fun a e M n k => e.getK q0 fun v0 => e.getK q1 fun v1 => VV.onAny v0 (v_nck v0 fun v2 => v_fa v2 1 fun v3 => ldW M v3 1 false fun _ v4 => VV.onAny v1 (lkuV .nils false v4 v1 M fun v5 => v_lenS v5 fun v6 => VV.onAny (.i (.ofNat 0)) (e.setK q5 v6 fun e => e.setK q3 (.i (.ofNat 0)) fun e => k e M n)))
def R68_2 : RegF := fun a e M n k => e.getK q3 fun v0 => e.getK q5 fun v1 => v_lt v0 v1 fun v2 => e.setK q6 v2 fun e => k e M n
def R68_3 : RegF := fun a e M n k => e.getK q3 fun v0 => VV.onAny v0 (VV.onAny v0 (e.setK q7 v0 fun e => k e M n))
def R68_4 : RegF := fun a e M n k => e.getK q0 fun v0 => e.getK q1 fun v1 => e.getK q7 fun v2 => VV.onAny v0 (v_nck v0 fun v3 => v_fa v3 1 fun v4 => ldW M v4 1 false fun _ v5 => VV.onAny v1 (lkuV .nils false v5 v1 M fun v6 => VV.onAny v2 (v_ixS v6 v2 2 fun v7 => VV.onAny v7 (e.setK q8 v7 fun e => k e M n))))
def R68_5 : RegF := fun a e M n k => e.getK q8 fun v0 => e.getK q2 fun v1 => VV.onAny v0 (VV.onAny v0 (v_nck v0 fun v2 => v_fa v2 1 fun v3 => ldW M v3 1 false fun _ v4 => VV.onAny v1 (bslV 3 1 2 [(.i (.ofNat 0)), (.i (.ofNat 0))] [(0, 1, v4), (1, 1, v1)] M n fun v5 M n => callV a s104 [v5] M n fun v6 M n => v_nck v0 fun v7 => v_fa v7 1 fun v8 => stV M v8 v6 1 fun M => k e M n)))
def R68_6 : RegF := fun a e M n k => e.getK q3 fun v0 => v_add v0 (.i (.ofNat 1)) fun v1 => VV.onAny v1 (e.setK q3 v1 fun e => k e M n)
def S68 : List (P × I) := [(s0, q0), (s1, q1), (s2, q2), (s17, q3), (s9, q4), (s16, q5), (s18, q6), (s6, q7), (s7, q8)]
def G68 : F2 := .mk (fun a e M n k => R68_0 a e M n fun e M n => e.getK q4 fun v => v.onB fun c => Bool.rec (R68_1 a e M n fun e M n => (fun (j0 : En → Mem → P → Bool) => loopK (fun a e M n k => R68_2 a e M n fun e M n => e.getK q6 fun v => v.onB fun c => Bool.rec (k (.x 0) e M n) (R68_3 a e M n fun e M n => R68_4 a e M n fun e M n => R68_5 a e M n fun e M n => R68_6 a e M n fun e M n => k .n e M n) c) a e M n fun ex e M n => Ex.rec (j0 e M n) (k .r e M n) (fun id => Bool.rec (k (.x id) e M n) (j0 e M n) (Nat.beq id 0)) ex) fun e M n => k .n e M n) (k .r e M n) c) [] [q0, q1, q2]
def R69_0 : RegF := fun a e M n k => alV 66 [(.i (.ofNat 0)), (.i (.ofNat 0)), (.i (.ofNat 0)), (.i (.ofNat 0)), (.i (.ofNat 0)), (.i (.ofNat 0)), (.i (.ofNat 0)), (.str []), (.str [])] M n fun v0 M n => e.setK q2 v0 fun e => k e M n
def R69_1 : RegF := fun a e M n k => e.getK q0 fun v0 => e.getK q1 fun v1 => (fun M0 => VV.onAny v0 (v_nck v0 fun v2 => v_fa v2 3 fun v3 => ldW M v3 1 false fun _ v4 => VV.onAny v1 (v_ixS v4 v1 1 fun v5 => ldW M v5 1 false fun _ v6 => VV.onAny v0 (v_nck v0 fun v7 => v_fa v7 2 fun v8 => ldW M v8 1 false fun _ v9 => VV.onAny v1 (v_ixS v9 v1 21 fun v10 => v_fa v10 7 fun v11 => ldW M v11 1 false fun _ v12 => VV.onAny v6 (VV.onAny v12 (Bool.rec false (e.setK q4 v6 fun e => e.setK q3 v12 fun e => k e M n) (keptB M0 M [])))))))) M
def R69_2 : RegF := fun a e M n k => e.getK q3 fun v0 => e.getK q4 fun v1 => VV.onAny v0 (VV.onAny v1 (v_lenS v1 fun v2 => v_lt v0 v2 fun v3 => VV.onAny v3 (e.setK q5 v3 fun e => k e M n)))
def R69_3 : RegF := fun a e M n k => e.getK q0 fun v0 => e.getK q1 fun v1 => VV.onAny v0 (VV.onAny v1 (callV a s115 [v0, v1] M n fun v2 M n => VV.onAny v2 (e.setK q6 v2 fun e => k e M n)))
def R69_4 : RegF := fun a e M n k => e.getK q2 fun v0 => v_bld [(.i (.ofNat 0)), (.i (.ofNat 0)), (.i (.ofNat 0)), (.str []), (.str [])] [(0, 1, (.i (.ofNat 15)))] fun v1 => v_bld [(.i (.ofNat 0)), (.i (.ofNat 0)), (.i (.ofNat 0)), (.i (.ofNat 0)), (.i (.ofNat 0)), (.i (.ofNat 0)), (.i (.ofNat 0)), (.str []), (.str [])] [(0, 1, (.i (.ofNat 10))), (4, 5, v1)] fun v2 => stV M v0 v2 9 fun M => k e M n
def R69_5 : RegF := fun a e M n k => e.getK q2 fun v0 => v_bld [(.i (.ofNat 0)), (.i (.ofNat 0)), (.i (.ofNat 0)), (.i (.ofNat 0)), (.i (.ofNat 0)), (.i (.ofNat 0)), (.i (.ofNat 0)), (.str []), (.str [])] [(0, 1, (.i (.ofNat 4)))] fun v1 => stV M v0 v1 9 fun M => k e M n
def R69_6 : RegF := fun a e M n k => e.getK q4 fun v0 => e.getK q3 fun v1 => e.getK q2 fun v2 => VV.onAny v0 (VV.onAny v1 (v_ixS v0 v1 9 fun v3 => ldW M v3 9 true fun _ v4 => stV M v2 v4 9 fun M => k e M n))
def S69 : List (P × I) := [(s0, q0), (s1, q1), (s4, q2), (s6, q3), (s5, q4), (s22, q5), (s31, q6)]
def G69 : F2 := .mk (fun a e M n k => R69_0 a e M n fun e M n => R69_1 a e M n fun e M n => R69_2 a e M n fun e M n => e.getK q5 fun v => v.onB fun c => Bool.rec (R69_3 a e M n fun e M n => e.getK q6 fun v => v.onB fun c => Bool.rec (R69_4 a e M n fun e M n => k .r e M n) (R69_5 a e M n fun e M n => k .r e M n) c) (R69_6 a e M n fun e M n => k .r e M n) c) [.c q2 9 true] [q0, q1]
def R70_0 : RegF := fun a e M n k => e.getK q0 fun v0 => e.getK q1 fun v1 => VV.onAny v0 (v_nck v0 fun v2 => v_fa v2 2 fun v3 => ldW M v3 1 false fun _ v4 => VV.onAny v1 (v_ixS v4 v1 21 fun v5 => v_fa v5 19 fun v6 => ldW M v6 1 false fun _ v7 => v_le (.i (.ofNat 0)) v7 fun v8 => e.setK q4 v8 fun e => k e M n))
def R70_1 : RegF := fun a e M n k => e.getK q0 fun v0 => e.getK q1 fun v1 => VV.onAny v0 (VV.onAny v1 (callV a s69 [v0, v1] M n fun v2 M n => alV 66 [(.i (.ofNat 0)), (.i (.ofNat 0)), (.i (.ofNat 0)), (.i (.ofNat 0)), (.i (.ofNat 0)), (.i (.ofNat 0)), (.i (.ofNat 0)), (.str []), (.str [])] M n fun v3 M n => stV M v3 v2 9 fun M => e.setK q3 v3 fun e => k e M n))
def R70_2 : RegF := fun a e M n k => VV.onAny (.nilf) (e.setK q15 (.nilf) fun e => k e M n)
def R70_3 : RegF := fun a e M n k => e.getK q15 fun v0 => e.getK q1 fun v1 => e.getK q3 fun v2 => VV.onAny v0 (VV.onAny v1 (ldW M v2 9 true fun _ v3 => cvV a v0 [v1, v3] M n fun v4 M n => k e M n))
def R70_4 : RegF := fun a e M n k => e.getK q3 fun v0 => v_fa v0 0 fun v1 => ldW M v1 1 false fun _ v2 => e.setK q2 v2 fun e => k e M n
def R70_5 : RegF := fun a e M n k => e.getK q2 fun v0 => v_eq v0 (.i (.ofNat 6)) fun v1 => VV.onAny v1 (e.setK q5 v1 fun e => k e M n)
def R70_6 : RegF := fun a e M n k => e.getK q2 fun v0 => v_eq v0 (.i (.ofNat 1)) fun v1 => VV.onAny v1 (e.setK q6 v1 fun e => k e M n)
def R70_7 : RegF := fun a e M n k => e.getK q2 fun v0 => v_eq v0 (.i (.ofNat 5)) fun v1 => VV.onAny v1 (e.setK q7 v1 fun e => k e M n)
def R70_8 : RegF := fun a e M n k => e.getK q2 fun v0 => v_eq v0 (.i (.ofNat 4)) fun v1 => VV.onAny v1 (e.setK q8 v1 fun e => k e M n)
def R70_9 : RegF := fun a e M n k => e.getK q2 fun v0 => v_eq v0 (.i (.ofNat 2)) fun v1 => VV.onAny v1 (e.setK q9 v1 fun e => k e M n)
def R70_10 : RegF := fun a e M n k => e.getK q2 fun v0 => v_eq v0 (.i (.ofNat 3)) fun v1 => VV.onAny v1 (e.setK q10 v1 fun e => k e M n)
def R70_11 : RegF := fun a e M n k => e.getK q2 fun v0 => v_eq v0 (.i (.ofNat 7)) fun v1 => VV.onAny v1 (e.setK q11 v1 fun e => k e M n)
def R70_12 : RegF := fun a e M n k => e.getK q2 fun v0 => v_eq v0 (.i (.ofNat 8)) fun v1 => VV.onAny v1 (e.setK q12 v1 fun e => k e M n)
def R70_13 : RegF := fun a e M n k => e.getK q2 fun v0 => v_eq v0 (.i (.ofNat 9)) fun v1 => VV.onAny v1 (e.setK q13 v1 fun e => k e M n)
def R70_14 : RegF := fun a e M n k => e.getK q2 fun v0 => v_eq v0 (.i (.ofNat 10)) fun v1 => VV.onAny v1 (e.setK q14 v1 fun e => k e M n)
def R70_15 : RegF := fun a e M n k => e.getK q0 fun v0 => VV.onAny v0 (v_mkf s127 [v0] [] fun v1 => VV.onAny v1 (e.setK q15 v1 fun e => k e M n))
def R70_16 : RegF := fun a e M n k => e.getK q0 fun v0 => VV.onAny v0 (v_mkf s126 [v0] [] fun v1 => VV.onAny v1 (e.setK q15 v1 fun e => k e M n))
def R70_17 : RegF := fun a e M n k => e.getK q0 fun v0 => VV.onAny v0 (v_mkf s125 [v0] [] fun v1 => VV.onAny v1 (e.setK q15 v1 fun e => k e M n))
def R70_18 : RegF := fun a e M n k => e.getK q0 fun v0 => VV.onAny v0 (v_mkf s124 [v0] [] fun v1 => VV.onAny v1 (e.setK q15 v1 fun e => k e M n))
def R70_19 : RegF := fun a e M n k => e.getK q0 fun v0 => VV.onAny v0 (v_mkf s123 [v0] [] fun v1 => VV.onAny v1 (e.setK q15 v1 fun e => k e M n))
def R70_20 : RegF := fun a e M n k => e.getK q0 fun v0 => VV.onAny v0 (v_mkf s122 [v0] [] fun v1 => VV.onAny v1 (e.setK q15 v1 fun e => k e M n))
def R70_21 : RegF := fun a e M n k => e.getK q0 fun v0 => VV.onAny v0 (v_mkf s121 [v0] [] fun v1 => VV.onAny v1 (e.setK q15 v1 fun e => k e M n))
def R70_22 : RegF := fun a e M n k => e.getK q0 fun v0 => VV.onAny v0 (v_mkf s120 [v0] [] fun v1 => VV.onAny v1 (e.setK q15 v1 fun e => k e M n))
def R70_23 : RegF := fun a e M n k => e.getK q0 fun v0 => VV.onAny v0 (v_mkf s119 [v0] [] fun v1 => VV.onAny v1 (e.setK q15 v1 fun e => k e M n))
def R70_24 : RegF := fun a e M n k => e.getK q0 fun v0 => VV.onAny v0 (v_mkf s118 [v0] [] fun v1 => VV.onAny v1 (e.setK q15 v1 fun e => k e M n))
def R70_25 : RegF := fun a e M n k => e.getK q0 fun v0 => VV.onAny v0 (v_mkf s117 [v0] [] fun v1 => VV.onAny v1 (e.setK q15 v1 fun e => k e M n))
def R70_26 : RegF := fun a e M n k => e.getK q0 fun v0 => e.getK q1 fun v1 => VV.onAny v0 (VV.onAny v1 (callV a s116 [v0, v1] M n fun v2 M n => k e M n))
def S70 : List (P × I) := [(s0, q0), (s1, q1), (s22, q2), (s4, q3), (s14, q4), (s25, q5), (s29, q6), (s33, q7), (s37, q8), (s41, q9), (s45, q10), (s49, q11), (s53, q12), (s57, q13), (s61, q14), (s5, q15)]
def G70 : F2 := .mk (fun a e M n k => R70_0 a e M n fun e M n => e.getK q4 fun v => v.onB fun c => Bool.rec (R70_1 a e M n fun e M n => R70_2 a e M n fun e M n => (fun (j0 : En → Mem → P → Bool) => R70_4 a e M n fun e M n => (fun (j1 : En → Mem → P → Bool) => R70_5 a e M n fun e M n => (fun (j2 : En → Mem → P → Bool) => e.getK q5 fun v => v.onB fun c => Bool.rec (R70_6 a e M n fun e M n => (fun (j3 : En → Mem → P → Bool) => e.getK q6 fun v => v.onB fun c => Bool.rec (R70_7 a e M n fun e M n => (fun (j4 : En → Mem → P → Bool) => e.getK q7 fun v => v.onB fun c => Bool.rec (R70_8 a e M n fun e M n => (fun (j5 : En → Mem → P → Bool) => e.getK q8 fun v => v.onB fun c => Bool.rec (R70_9 a e M n fun e M n => (fun (j6 : En → Mem → P → Bool) => e.getK q9 fun v => v.onB fun c => Bool.rec (R70_10 a e M n fun e M n => (fun (j7 : En → Mem → P → Bool) => e.getK q10 fun v => v.onB fun c => Bool.rec (R70_11 a e M n fun e M n => (fun (j8 : En → Mem → P → Bool) => e.getK q11 fun v => v.onB fun c => Bool.rec (R70_12 a e M n fun e M n => (fun (j9 : En → Mem → P → Bool) => e.getK q12 fun v => v.onB fun c => Bool.rec (R70_13 a e M n fun e M n => (fun (j10 : En → Mem → P → Bool) => e.getK q13 fun v => v.onB fun c => Bool.rec (R70_14 a e M n fun e M n => (fun (j11 : En → Mem → P → Bool) => e.getK q14 fun v => v.onB fun c => Bool.rec (R70_15 a e M n fun e M n => j11 e M n) (R70_16 a e M n fun e M n => j11 e M n) c) fun e M n => j10 e M n) (R70_17 a e M n fun e M n => j10 e M n) c) fun e M n => j9 e M n) (R70_18 a e M n fun e M n => j9 e M n) c) fun e M n => j8 e M n) (R70_19 a e M n fun e M n => j8 e M n) c) fun e M n => j7 e M n) (R70_20 a e M n fun e M n => j7 e M n) c) fun e M n => j6 e M n) (R70_21 a e M n fun e M n => j6 e M n) c) fun e M n => j5 e M n) (R70_22 a e M n fun e M n => j5 e M n) c) fun e M n => j4 e M n) (R70_23 a e M n fun e M n => j4 e M n) c) fun e M n => j3 e M n) (R70_24 a e M n fun e M n => j3 e M n) c) fun e M n => j2 e M n) (R70_25 a e M n fun e M n => j2 e M n) c) fun e M n => j1 e M n) fun e M n => j0 e M n) fun e M n => R70_3 a e M n fun e M n => k .n e M n) (R70_26 a e M n fun e M n => k .r e M n) c) [] [q0, q1]
def R71_0 : RegF := fun a e M n k => e.getK q0 fun v0 => bxV 33 v0 M n fun v1 M n => e.setK q2 v1 fun e => k e M n
def R71_1 : RegF := fun a e M n k => e.getK q2 fun v0 => e.getK q1 fun v1 => ldW M v0 1 false fun _ v2 => v_nck v2 fun v3 => v_fa v3 2 fun v4 => ldW M v4 1 false fun _ v5 => VV.onAny v1 (v_ixS v5 v1 21 fun v6 => ldW M v6 21 true fun _ v7 => alV 102 (rep 9 (.i (.ofNat 0)) ++ [(.bool false), (.i (.ofNat 0)), (.i (.ofNat 0)), (.i (.ofNat 0)), (.str []), (.bool false), (.i (.ofNat 0)), (.i (.ofNat 0)), (.i (.ofNat 0)), (.i (.ofNat 0)), (.i (.ofNat 0)), .nils]) M n fun v8 M n => stV M v8 v7 21 fun M => e.setK q3 v8 fun e => k e M n)
def R71_2 : RegF := fun a e M n k => e.getK q3 fun v0 => e.getK q2 fun v1 => e.getK q1 fun v2 => (fun M0 => v_fa v0 14 fun v3 => ldW M v3 1 false fun _ v4 => VV.onAny v4 (gdK v4 true .off M n (fun j => v_fa v0 17 fun v => j v M n) fun v5 M n => gdK v4 true .off M n (fun j => ldW M v5 1 false fun _ v => j v M n) fun v6 M n => gdK v4 true .off M n (fun j => ldW M v1 1 false fun _ v => j v M n) fun v7 M n => gdK v4 true .off M n (fun j => v_nck v7 fun v => j v M n) fun v8 M n => gdK v4 true .off M n (fun j => v_fa v8 0 fun v => j v M n) fun v9 M n => gdK v4 true .off M n (fun j => ldW M v9 1 false fun _ v => j v M n) fun v10 M n => gdK v4 true .off M n (fun j => v_mv v2 fun v => j v M n) fun v11 M n => gdK v4 true .off M n (fun j => v_ixS v10 v11 8 fun v => j v M n) fun v12 M n => gdK v4 true .off M n (fun j => v_fa v12 4 fun v => j v M n) fun v13 M n => gdK v4 true .off M n (fun j => ldW M v13 1 false fun _ v => j v M n) fun v14 M n => gdK v4 true .off M n (fun j => v_le v14 v6 fun v => j v M n) fun v15 M n => v_pick v4 v15 (.bool false) fun v16 => VV.onAny v16 (gdK v16 false .off M n (fun j => ldW M v1 1 false fun _ v => j v M n) fun v17 M n => gdK v16 false .off M n (fun j => v_nck v17 fun v => j v M n) fun v18 M n => gdK v16 false .off M n (fun j => v_fa v18 5 fun v => j v M n) fun v19 M n => gdK v16 false .off M n (fun j => ldW M v19 1 false fun _ v => j v M n) fun v20 M n => gdK v16 false .off M n (fun j => v_mv v2 fun v => j v M n) fun v21 M n => gdK v16 false .no M n (fun j => callV a s30 [v20, v21] M n fun v M n => j v M n) fun v22 M n => gdK v16 false .off M n (fun j => v_mkf s129 [] [v1] fun v => j v M n) fun v23 M n => gdK v16 false .no M n (fun j => callV a s128 [v22, v23] M n fun v M n => j v M n) fun v24 M n => v_pick v16 (.bool true) v24 fun v25 => VV.onAny v25 (Bool.rec false (e.setK q4 v25 fun e => k e M n) (keptB M0 M []))))) M
def R71_3 : RegF := fun a e M n k => e.getK q4 fun v0 => e.getK q3 fun v1 => VV.onAny v0 (VV.onAny v0 (gdK v0 true .off M n (fun j => v_fa v1 9 fun v => j v M n) fun v2 M n => gdK v0 true .off M n (fun j => ldW M v2 1 false fun _ v => j v M n) fun v3 M n => gdK v0 true .off M n (fun j => v_not v3 fun v => j v M n) fun v4 M n => v_pick v0 v4 (.bool false) fun v5 => e.setK q5 v5 fun e => k e M n))
def R71_4 : RegF := fun a e M n k => e.getK q2 fun v0 => e.getK q1 fun v1 => (fun M0 => ldW M v0 1 false fun _ v2 => VV.onAny v1 (ldW M v0 1 false fun _ v3 => v_nck v3 fun v4 => v_fa v4 1 fun v5 => ldW M v5 1 false fun _ v6 => v_add v6 (.i (.ofNat 1)) fun v7 => callV a s113 [v2, v1, v7] M n fun v8 M n => Bool.rec false (k e M n) (keptB M0 M []))) M
def S71 : List (P × I) := [(s0, q0), (s1, q1), (s2, q2), (s4, q3), (s5, q4), (s43, q5)]
def G71 : F2 := .mk (fun a e M n k => R71_0 a e M n fun e M n => R71_1 a e M n fun e M n => R71_2 a e M n fun e M n => R71_3 a e M n fun e M n => (fun (j0 : En → Mem → P → Bool) => e.getK q5 fun v => v.onB fun c => Bool.rec (j0 e M n) (R71_4 a e M n fun e M n => j0 e M n) c) fun e M n => k .n e M n) [] [q0, q1]
def R72_0 : RegF := fun a e M n k => VV.onAny (.i (.ofNat 0)) (e.setK q1 (.i (.ofNat 0)) fun e => k e M n)
def R72_1 : RegF := fun a e M n k => e.getK q0 fun v0 => VV.onAny v0 (v_max v0 (.i (.ofNat 0)) fun v1 => v_min v1 (.i (.ofNat 1099511627776)) fun v2 => VV.onAny v2 (e.setK q1 v2 fun e => k e M n))
def S72 : List (P × I) := [(s0, q0), (s2, q1)]
def G72 : F2 := .mk (fun a e M n k => R72_0 a e M n fun e M n => R72_1 a e M n fun e M n => k .r e M n) [.t q1] [q0]
def G73 : F2 := .spec (ownerS)
def R74_0 : RegF := fun a e M n k => VV.onAny (.i (.ofNat 0)) (e.setK q2 (.i (.ofNat 0)) fun e => k e M n)
def R74_1 : RegF := fun a e M n k => e.getK q0 fun v0 => VV.onAny v0 (v_nqP false v0 fun v1 => e.setK q1 v1 fun e => k e M n)
def R74_2 : RegF := fun a e M n k => e.getK q0 fun v0 => VV.onAny v0 (v_nck v0 fun v1 => v_fa v1 0 fun v2 => ldW M v2 1 false fun _ v3 => v_lenS v3 fun v4 => VV.onAny v4 (e.setK q2 v4 fun e => k e M n))
def R74_3 : RegF := fun a e M n k => VV.onAny (.i (.ofNat 0)) (e.setK q2 (.i (.ofNat 0)) fun e => k e M n)
def S74 : List (P × I) := [(s0, q0), (s4, q1), (s2, q2)]
def G74 : F2 := .mk (fun a e M n k => R74_0 a e M n fun e M n => R74_1 a e M n fun e M n => e.getK q1 fun v => v.onB fun c => Bool.rec (R74_2 a e M n fun e M n => k .r e M n) (R74_3 a e M n fun e M n => k .r e M n) c) [.t q2] [q0]
def R75_0 : RegF := fun a e M n k => VV.onAny (.nils) (e.setK q2 (.nils) fun e => k e M n)
def R75_1 : RegF := fun a e M n k => e.getK q0 fun v0 => VV.onAny v0 (v_nqS false v0 fun v1 => e.setK q1 v1 fun e => k e M n)
def R75_2 : RegF := fun a e M n k => e.getK q0 fun v0 => bslV 166 2 0 [] [] M n fun v1 M n => VV.onAny v0 (appV 166 2 16 v1 v0 M n fun v2 M n => VV.onAny v2 (e.setK q2 v2 fun e => k e M n))
def R75_3 : RegF := fun a e M n k => VV.onAny (.nils) (e.setK q2 (.nils) fun e => k e M n)
def S75 : List (P × I) := [(s0, q0), (s4, q1), (s2, q2)]
def G75 : F2 := .mk (fun a e M n k => R75_0 a e M n fun e M n => R75_1 a e M n fun e M n => e.getK q1 fun v => v.onB fun c => Bool.rec (R75_2 a e M n fun e M n => k .r e M n) (R75_3 a e M n fun e M n => k .r e M n) c) [.t q2] [q0]
def R76_0 : RegF := fun a e M n k => e.getK q0 fun v0 => bxV 28 v0 M n fun v1 M n => VV.onAny (.nil) (VV.onAny (.i (.ofNat 0)) (e.setK q2 v1 fun e => e.setK q5 (.nil) fun e => e.setK q6 (.i (.ofNat 0)) fun e => k e M n))
def R76_1 : RegF := fun a e M n k => e.getK q2 fun v0 => ldW M v0 6 true fun _ v1 => callV a s18 [v1] M n fun v2 M n => VV.onAny v2 (v_ext v2 0 fun v3 => v_ext v2 1 fun v4 => VV.onAny v3 (VV.onAny v4 (e.setK q4 v3 fun e => e.setK q1 v4 fun e => k e M n)))
def R76_2 : RegF := fun a e M n k => e.getK q1 fun v0 => VV.onAny v0 (v_ne v0 (.i (.ofNat 0)) fun v1 => e.setK q3 v1 fun e => k e M n)
def R76_3 : RegF := fun a e M n k => e.getK q4 fun v0 => VV.onAny v0 (v_bld [.nil, .nils] [(0, 1, v0)] fun v1 => bxV 172 v1 M n fun v2 M n => VV.onAny v2 (VV.onAny (.i (.ofNat 0)) (e.setK q5 v2 fun e => e.setK q6 (.i (.ofNat 0)) fun e => k e M n)))
def R76_4 : RegF := fun a e M n k => e.getK q1 fun v0 => VV.onAny v0 (VV.onAny (.nil) (VV.onAny v0 (e.setK q5 (.nil) fun e => e.setK q6 v0 fun e => k e M n)))
def S76 : List (P × I) := [(s0, q0), (s5, q1), (s1, q2), (s12, q3), (s4, q4), (s2, q5), (s3, q6)]
def G76 : F2 := .mk (fun a e M n k => R76_0 a e M n fun e M n => R76_1 a e M n fun e M n => R76_2 a e M n fun e M n => e.getK q3 fun v => v.onB fun c => Bool.rec (R76_3 a e M n fun e M n => k .r e M n) (R76_4 a e M n fun e M n => k .r e M n) c) [.t q5, .t q6] [q0]
def R77_0 : RegF := fun a e M n k => VV.onAny (.nils) (e.setK q9 (.nils) fun e => k e M n)
def R77_1 : RegF := fun a e M n k => e.getK q0 fun v0 => VV.onAny v0 (v_nqP false v0 fun v1 => e.setK q5 v1 fun e => k e M n)
def R77_2 : RegF := fun a e M n k => VV.onAny (.nils) (e.setK q3 (.nils) fun e => k e M n)
def R77_3 : RegF := fun a e M n k => e.getK q0 fun v0 => e.getK q3 fun v1 => VV.onAny v0 (VV.onAny v0 (v_nck v0 fun v2 => v_fa v2 1 fun v3 => ldW M v3 1 false fun _ v4 => VV.onAny v1 (appV 36 2 16 v4 v1 M n fun v5 M n => v_nck v0 fun v6 => v_fa v6 1 fun v7 => stV M v7 v5 1 fun M => k e M n)))
def R77_4 : RegF := fun a e M n k => e.getK q3 fun v0 => VV.onAny v0 (VV.onAny v0 (e.setK q9 v0 fun e => k e M n))
def R77_5 : RegF := fun a e M n k => e.getK q2 fun v0 => VV.onAny v0 (v_min v0 (.i (.ofNat 4096)) fun v1 => v_max v1 (.i (.ofNat 0)) fun v2 => VV.onAny (.i (.ofNat 0)) (e.setK q6 v2 fun e => e.setK q4 (.i (.ofNat 0)) fun e => k e M n))
def R77_6 : RegF := fun a e M n k => e.getK q4 fun v0 => e.getK q6 fun v1 => v_lt v0 v1 fun v2 => e.setK q7 v2 fun e => k e M n
def R77_7 : RegF := fun a e M n k => e.getK q0 fun v0 => VV.onAny v0 (v_nck v0 fun v1 => v_fa v1 0 fun v2 => ldW M v2 1 false fun _ v3 => callV a s132 [v3] M n fun v4 M n => alV 3 [(.i (.ofNat 0))] M n fun v5 M n => stV M v5 v4 1 fun M => e.setK q8 v5 fun e => k e M n)
def R77_8 : RegF := fun a e M n k => e.getK q3 fun v0 => e.getK q0 fun v1 => e.getK q1 fun v2 => e.getK q8 fun v3 => (fun M0 => VV.onAny v0 (VV.onAny v1 (v_nck v1 fun v4 => v_fa v4 0 fun v5 => ldV M v5 1 false fun bv6 v6 => VV.onAny v2 (v_mkf s134 [] [v3] fun v7 => callV a s133 [v2, v7] M n fun v8 M n => callV a s10 [v6, v8] M n fun v9 M n => bslV 36 2 1 [(.i (.ofNat 0)), (.bool false)] [(0, 2, v9)] M n fun v10 M n => appV 36 2 16 v0 v10 M n fun v11 M n => VV.onAny v11 (Bool.rec false (e.setK q3 v11 fun e => k e M n) (keptB M0 M (bv6 :: []))))))) M
def R77_9 : RegF := fun a e M n k => e.getK q4 fun v0 => v_add v0 (.i (.ofNat 1)) fun v1 => VV.onAny v1 (e.setK q4 v1 fun e => k e M n)
def R77_10 : RegF := fun a e M n k => VV.onAny (.nils) (e.setK q9 (.nils) fun e => k e M n)
def S77 : List (P × I) := [(s0, q0), (s1, q1), (s2, q2), (s7, q3), (s14, q4), (s10, q5), (s13, q6), (s15, q7), (s8, q8), (s6, q9)]
def G77 : F2 := .mk (fun a e M n k => R77_0 a e M n fun e M n => R77_1 a e M n fun e M n => e.getK q5 fun v => v.onB fun c => Bool.rec (R77_2 a e M n fun e M n => (fun (j0 : En → Mem → P → Bool) => R77_5 a e M n fun e M n => (fun (j1 : En → Mem → P → Bool) => loopK (fun a e M n k => R77_6 a e M n fun e M n => e.getK q7 fun v => v.onB fun c => Bool.rec (k (.x 0) e M n) (R77_7 a e M n fun e M n => R77_8 a e M n fun e M n => R77_9 a e M n fun e M n => k .n e M n) c) a e M n fun ex e M n => Ex.rec (j1 e M n) (k .r e M n) (fun id => Bool.rec (k (.x id) e M n) (j1 e M n) (Nat.beq id 0)) ex) fun e M n => j0 e M n) fun e M n => R77_3 a e M n fun e M n => R77_4 a e M n fun e M n => k .r e M n) (R77_10 a e M n fun e M n => k .r e M n) c) [.t q9] [q0, q1, q2]
def R78_0 : RegF := fun a e M n k => VV.onAny (.nils) (e.setK q2 (.nils) fun e => k e M n)
def R78_1 : RegF := fun a e M n k => e.getK q0 fun v0 => VV.onAny v0 (v_nqP false v0 fun v1 => e.setK q1 v1 fun e => k e M n)
def R78_2 : RegF := fun a e M n k => e.getK q0 fun v0 => VV.onAny v0 (v_nck v0 fun v1 => v_fa v1 11 fun v2 => ldW M v2 1 false fun _ v3 => callV a s135 [v3] M n fun v4 M n => VV.onAny v4 (e.setK q2 v4 fun e => k e M n))
def R78_3 : RegF := fun a e M n k => VV.onAny (.nils) (e.setK q2 (.nils) fun e => k e M n)
def S78 : List (P × I) := [(s0, q0), (s4, q1), (s2, q2)]
def G78 : F2 := .mk (fun a e M n k => R78_0 a e M n fun e M n => R78_1 a e M n fun e M n => e.getK q1 fun v => v.onB fun c => Bool.rec (R78_2 a e M n fun e M n => k .r e M n) (R78_3 a e M n fun e M n => k .r e M n) c) [.t q2] [q0]
def R79_0 : RegF := fun a e M n k => VV.onAny (.bool false) (e.setK q8 (.bool false) fun e => k e M n)
def R79_1 : RegF := fun a e M n k => VV.onAny (.bool true) (e.setK q8 (.bool true) fun e => k e M n)
def R79_2 : RegF := fun a e M n k => e.getK q2 fun v0 => e.getK q0 fun v1 => VV.onAny v0 (VV.onAny v1 (v_lenS v1 fun v2 => v_min v0 v2 fun v3 => VV.onAny (.i (.ofNat 0)) (e.setK q4 v3 fun e => e.setK q3 (.i (.ofNat 0)) fun e => k e M n)))
def R79_3 : RegF := fun a e M n k => e.getK q3 fun v0 => e.getK q4 fun v1 => v_lt v0 v1 fun v2 => e.setK q5 v2 fun e => k e M n
def R79_4 : RegF := fun a e M n k => e.getK q3 fun v0 => VV.onAny v0 (VV.onAny v0 (e.setK q6 v0 fun e => k e M n))
def R79_5 : RegF := fun a e M n k => e.getK q0 fun v0 => e.getK q1 fun v1 => e.getK q2 fun v2 => e.getK q6 fun v3 => VV.onAny v0 (VV.onAny v1 (VV.onAny v2 (VV.onAny v3 (callV a s137 [v0, v1, v2, v3] M n fun v4 M n => VV.onAny v3 (callV a s136 [v4, v3] M n fun v5 M n => e.setK q7 v5 fun e => k e M n)))))
def R79_6 : RegF := fun a e M n k => e.getK q3 fun v0 => v_add v0 (.i (.ofNat 1)) fun v1 => VV.onAny v1 (e.setK q3 v1 fun e => k e M n)
def R79_7 : RegF := fun a e M n k => VV.onAny (.bool false) (e.setK q8 (.bool false) fun e => k e M n)
def S79 : List (P × I) := [(s0, q0), (s1, q1), (s2, q2), (s12, q3), (s11, q4), (s13, q5), (s7, q6), (s21, q7), (s6, q8)]
def G79 : F2 := .mk (fun a e M n k => R79_0 a e M n fun e M n => (fun (j0 : En → Mem → P → Bool) => R79_2 a e M n fun e M n => (fun (j1 : En → Mem → P → Bool) => loopK (fun a e M n k => R79_3 a e M n fun e M n => e.getK q5 fun v => v.onB fun c => Bool.rec (k (.x 0) e M n) (R79_4 a e M n fun e M n => R79_5 a e M n fun e M n => e.getK q7 fun v => v.onB fun c => Bool.rec (R79_6 a e M n fun e M n => k .n e M n) (R79_7 a e M n fun e M n => k .r e M n) c) c) a e M n fun ex e M n => Ex.rec (j1 e M n) (k .r e M n) (fun id => Bool.rec (k (.x id) e M n) (j1 e M n) (Nat.beq id 0)) ex) fun e M n => j0 e M n) fun e M n => R79_1 a e M n fun e M n => k .r e M n) [.t q8] [q0, q1, q2]
def R80_0 : RegF := fun a e M n k => e.getK q0 fun v0 => bxV 47 v0 M n fun v1 M n => VV.onAny (.nils) (e.setK q4 v1 fun e => e.setK q10 (.nils) fun e => k e M n)
def R80_1 : RegF := fun a e M n k => VV.onAny (.nils) (e.setK q3 (.nils) fun e => k e M n)
def R80_2 : RegF := fun a e M n k => e.getK q3 fun v0 => VV.onAny v0 (VV.onAny v0 (e.setK q10 v0 fun e => k e M n))
def R80_3 : RegF := fun a e M n k => e.getK q4 fun v0 => v_fa v0 1 fun v1 => ldW M v1 1 false fun _ v2 => v_lenS v2 fun v3 => VV.onAny (.i (.ofNat 0)) (e.setK q7 v2 fun e => e.setK q5 v3 fun e => e.setK q1 (.i (.ofNat 0)) fun e => k e M n)
def R80_4 : RegF := fun a e M n k => e.getK q1 fun v0 => e.getK q5 fun v1 => v_lt v0 v1 fun v2 => e.setK q6 v2 fun e => k e M n
def R80_5 : RegF := fun a e M n k => e.getK q7 fun v0 => e.getK q1 fun v1 => v_ixS v0 v1 21 fun v2 => ldW M v2 21 true fun _ v3 => alV 102 (rep 9 (.i (.ofNat 0)) ++ [(.bool false), (.i (.ofNat 0)), (.i (.ofNat 0)), (.i (.ofNat 0)), (.str []), (.bool false), (.i (.ofNat 0)), (.i (.ofNat 0)), (.i (.ofNat 0)), (.i (.ofNat 0)), (.i (.ofNat 0)), .nils]) M n fun v4 M n => stV M v4 v3 21 fun M => e.setK q2 v4 fun e => k e M n
def R80_6 : RegF := fun a e M n k => VV.onAny (.i (.negSucc 0)) (e.setK q9 (.i (.negSucc 0)) fun e => k e M n)
def R80_7 : RegF := fun a e M n k => e.getK q3 fun v0 => e.getK q9 fun v1 => VV.onAny v0 (VV.onAny v1 (bslV 3 1 1 [(.i (.ofNat 0))] [(0, 1, v1)] M n fun v2 M n => appV 3 1 8 v0 v2 M n fun v3 M n => VV.onAny v3 (e.setK q3 v3 fun e => k e M n)))
def R80_8 : RegF := fun a e M n k => e.getK q1 fun v0 => v_add v0 (.i (.ofNat 1)) fun v1 => VV.onAny v1 (e.setK q1 v1 fun e => k e M n)
def R80_9 : RegF := fun a e M n k => e.getK q2 fun v0 => v_fa v0 5 fun v1 => ldW M v1 1 false fun _ v2 => v_eq v2 (.i (.ofNat 2)) fun v3 => e.setK q8 v3 fun e => k e M n
def R80_10 : RegF := fun a e M n k => e.getK q2 fun v0 => v_fa v0 6 fun v1 => ldW M v1 1 false fun _ v2 => VV.onAny v2 (e.setK q9 v2 fun e => k e M n)
def S80 : List (P × I) := [(s0, q0), (s10, q1), (s5, q2), (s3, q3), (s1, q4), (s9, q5), (s11, q6), (s8, q7), (s16, q8), (s6, q9), (s2, q10)]
def G80 : F2 := .mk (fun a e M n k => R80_0 a e M n fun e M n => R80_1 a e M n fun e M n => (fun (j0 : En → Mem → P → Bool) => R80_3 a e M n fun e M n => (fun (j1 : En → Mem → P → Bool) => loopK (fun a e M n k => R80_4 a e M n fun e M n => e.getK q6 fun v => v.onB fun c => Bool.rec (k (.x 0) e M n) (R80_5 a e M n fun e M n => R80_6 a e M n fun e M n => (fun (j2 : En → Mem → P → Bool) => R80_9 a e M n fun e M n => (fun (j3 : En → Mem → P → Bool) => e.getK q8 fun v => v.onB fun c => Bool.rec (j3 e M n) (R80_10 a e M n fun e M n => j3 e M n) c) fun e M n => j2 e M n) fun e M n => R80_7 a e M n fun e M n => R80_8 a e M n fun e M n => k .n e M n) c) a e M n fun ex e M n => Ex.rec (j1 e M n) (k .r e M n) (fun id => Bool.rec (k (.x id) e M n) (j1 e M n) (Nat.beq id 0)) ex) fun e M n => j0 e M n) fun e M n => R80_2 a e M n fun e M n => k .r e M n) [.t q10] [q0]
def R81_0 : RegF := fun a e M n k => VV.onAny (.bool false) (e.setK q3 (.bool false) fun e => k e M n)
def R81_1 : RegF := fun a e M n k => e.getK q0 fun v0 => e.getK q1 fun v1 => e.getK q2 fun v2 => VV.onAny v0 (VV.onAny v1 (v_le v1 v0 fun v3 => VV.onAny v3 (gdK v3 true .off M n (fun j => v_mv v0 fun v => j v M n) fun v4 M n => gdK v3 true .off M n (fun j => v_mv v2 fun v => j v M n) fun v5 M n => gdK v3 true .off M n (fun j => v_le v4 v5 fun v => j v M n) fun v6 M n => v_pick v3 v6 (.bool false) fun v7 => VV.onAny v7 (e.setK q3 v7 fun e => k e M n))))
def S81 : List (P × I) := [(s0, q0), (s1, q1), (s2, q2), (s6, q3)]
def G81 : F2 := .mk (fun a e M n k => R81_0 a e M n fun e M n => R81_1 a e M n fun e M n => k .r e M n) [.t q3] [q0, q1, q2]
def R82_0 : RegF := fun a e M n k => e.getK q0 fun v0 => e.getK q1 fun v1 => bxV 28 v0 M n fun v2 M n => bxV 32 v1 M n fun v3 M n => VV.onAny (.bool false) (e.setK q3 v2 fun e => e.setK q2 v3 fun e => e.setK q7 (.bool false) fun e => k e M n)
def R82_1 : RegF := fun a e M n k => e.getK q2 fun v0 => v_fa v0 0 fun v1 => ldW M v1 1 false fun _ v2 => v_eq v2 (.i (.ofNat 2)) fun v3 => VV.onAny v3 (gdK v3 true .off M n (fun j => v_fa v0 1 fun v => j v M n) fun v4 M n => gdK v3 true .off M n (fun j => ldW M v4 1 false fun _ v => j v M n) fun v5 M n => gdK v3 true .no M n (fun j => callV a s81 [v5, (.i (.ofNat 0)), (.i (.ofNat 63))] M n fun v M n => j v M n) fun v6 M n => v_pick v3 v6 (.bool false) fun v7 => VV.onAny v7 (gdK v7 false .off M n (fun j => v_fa v0 0 fun v => j v M n) fun v8 M n => gdK v7 false .off M n (fun j => ldW M v8 1 false fun _ v => j v M n) fun v9 M n => gdK v7 false .off M n (fun j => v_eq v9 (.i (.ofNat 1)) fun v => j v M n) fun v10 M n => gdK v7 false .off M n (fun j => v_mv v10 fun v => j v M n) fun v11 M n => gdK v11 true .off M n (fun j => v_fa v0 1 fun v => j v M n) fun v12 M n => gdK v11 true .off M n (fun j => ldW M v12 1 false fun _ v => j v M n) fun v13 M n => gdK v11 true .off M n (fun j => v_eq v13 (.i (.ofNat 0)) fun v => j v M n) fun v14 M n => gdK v7 false .off M n (fun j => v_pick v11 v14 (.bool false) fun v => j v M n) fun v15 M n => v_pick v7 (.bool true) v15 fun v16 => VV.onAny v16 (e.setK q4 v16 fun e => k e M n)))
def R82_2 : RegF := fun a e M n k => e.getK q2 fun v0 => v_fa v0 2 fun v1 => ldW M v1 1 false fun _ v2 => callV a s81 [v2, (.i (.ofNat 1)), (.i (.ofNat 1000000))] M n fun v3 M n => VV.onAny v3 (gdK v3 true .off M n (fun j => v_fa v0 3 fun v => j v M n) fun v4 M n => gdK v3 true .off M n (fun j => ldW M v4 1 false fun _ v => j v M n) fun v5 M n => gdK v3 true .off M n (fun j => v_fa v0 2 fun v => j v M n) fun v6 M n => gdK v3 true .off M n (fun j => ldW M v6 1 false fun _ v => j v M n) fun v7 M n => gdK v3 true .no M n (fun j => callV a s81 [v5, (.i (.ofNat 1)), v7] M n fun v M n => j v M n) fun v8 M n => v_pick v3 v8 (.bool false) fun v9 => VV.onAny v9 (gdK v9 true .off M n (fun j => v_fa v0 4 fun v => j v M n) fun v10 M n => gdK v9 true .off M n (fun j => ldW M v10 1 false fun _ v => j v M n) fun v11 M n => gdK v9 true .off M n (fun j => v_fa v0 3 fun v => j v M n) fun v12 M n => gdK v9 true .off M n (fun j => ldW M v12 1 false fun _ v => j v M n) fun v13 M n => gdK v9 true .no M n (fun j => callV a s81 [v11, (.i (.ofNat 1)), v13] M n fun v M n => j v M n) fun v14 M n => v_pick v9 v14 (.bool false) fun v15 => VV.onAny v15 (e.setK q5 v15 fun e => k e M n)))
def R82_3 : RegF := fun a e M n k => e.getK q2 fun v0 => e.getK q3 fun v1 => v_fa v0 6 fun v2 => ldW M v2 1 false fun _ v3 => v_lenS v3 fun v4 => v_le v4 (.i (.ofNat 6)) fun v5 => VV.onAny v5 (gdK v5 true .off M n (fun j => v_fa v0 6 fun v => j v M n) fun v6 M n => gdK v5 true .off M n (fun j => ldW M v6 1 false fun _ v => j v M n) fun v7 M n => gdK v5 true .off M n (fun j => v_mkf s138 [] [v1] fun v => j v M n) fun v8 M n => gdK v5 true .no M n (fun j => callV a s83 [v7, v8] M n fun v M n => j v M n) fun v9 M n => gdK v5 true .off M n (fun j => v_not v9 fun v => j v M n) fun v10 M n => v_pick v5 v10 (.bool false) fun v11 => VV.onAny v11 (e.setK q6 v11 fun e => k e M n))
def R82_4 : RegF := fun a e M n k => e.getK q4 fun v0 => e.getK q5 fun v1 => e.getK q6 fun v2 => e.getK q2 fun v3 => e.getK q3 fun v4 => VV.onAny v0 (VV.onAny v0 (gdK v0 true .off M n (fun j => v_mv v1 fun v => j v M n) fun v5 M n => v_pick v0 v5 (.bool false) fun v6 => VV.onAny v6 (gdK v6 true .off M n (fun j => v_mv v2 fun v => j v M n) fun v7 M n => v_pick v6 v7 (.bool false) fun v8 => VV.onAny v8 (gdK v8 true .off M n (fun j => v_fa v3 5 fun v => j v M n) fun v9 M n => gdK v8 true .off M n (fun j => ldW M v9 1 false fun _ v => j v M n) fun v10 M n => gdK v8 true .off M n (fun j => v_fa v4 3 fun v => j v M n) fun v11 M n => gdK v8 true .off M n (fun j => ldW M v11 1 false fun _ v => j v M n) fun v12 M n => gdK v8 true .off M n (fun j => v_lenS v12 fun v => j v M n) fun v13 M n => gdK v8 true .off M n (fun j => v_sub v13 (.i (.ofNat 1)) fun v => j v M n) fun v14 M n => gdK v8 true .no M n (fun j => callV a s81 [v10, (.i (.negSucc 0)), v14] M n fun v M n => j v M n) fun v15 M n => v_pick v8 v15 (.bool false) fun v16 => VV.onAny v16 (gdK v16 true .off M n (fun j => v_fa v3 7 fun v => j v M n) fun v17 M n => gdK v16 true .off M n (fun j => ldW M v17 1 false fun _ v => j v M n) fun v18 M n => gdK v16 true .off M n (fun j => v_lenS v18 fun v => j v M n) fun v19 M n => gdK v16 true .off M n (fun j => v_le v19 (.i (.ofNat 40)) fun v => j v M n) fun v20 M n => v_pick v16 v20 (.bool false) fun v21 => VV.onAny v21 (e.setK q7 v21 fun e => k e M n))))))
def S82 : List (P × I) := [(s0, q0), (s1, q1), (s3, q2), (s2, q3), (s5, q4), (s6, q5), (s7, q6), (s4, q7)]
def G82 : F2 := .mk (fun a e M n k => R82_0 a e M n fun e M n => R82_1 a e M n fun e M n => R82_2 a e M n fun e M n => R82_3 a e M n fun e M n => R82_4 a e M n fun e M n => k .r e M n) [.t q7] [q0, q1]
def R83_0 : RegF := fun a e M n k => VV.onAny (.bool false) (e.setK q2 (.bool false) fun e => k e M n)
def R83_1 : RegF := fun a e M n k => e.getK q0 fun v0 => e.getK q1 fun v1 => VV.onAny v0 (VV.onAny v1 (callV a s139 [v0, v1] M n fun v2 M n => v_le (.i (.ofNat 0)) v2 fun v3 => VV.onAny v3 (e.setK q2 v3 fun e => k e M n)))
def S83 : List (P × I) := [(s0, q0), (s1, q1), (s4, q2)]
def G83 : F2 := .mk (fun a e M n k => R83_0 a e M n fun e M n => R83_1 a e M n fun e M n => k .r e M n) [.t q2] [q0, q1]
def R85_0 : RegF := fun a e M n k => e.getK q1 fun v0 => bxV 99 v0 M n fun v1 M n => alV 102 (rep 9 (.i (.ofNat 0)) ++ [(.bool false), (.i (.ofNat 0)), (.i (.ofNat 0)), (.i (.ofNat 0)), (.str []), (.bool false), (.i (.ofNat 0)), (.i (.ofNat 0)), (.i (.ofNat 0)), (.i (.ofNat 0)), (.i (.ofNat 0)), .nils]) M n fun v2 M n => e.setK q4 v1 fun e => e.setK q3 v2 fun e => k e M n
def R85_1 : RegF := fun a e M n k => e.getK q0 fun v0 => e.getK q4 fun v1 => e.getK q2 fun v2 => e.getK q3 fun v3 => VV.onAny v0 (ldW M v1 3 true fun _ v4 => VV.onAny v2 (v_bld (rep 9 (.i (.ofNat 0)) ++ [(.bool false), (.i (.ofNat 0)), (.i (.ofNat 0)), (.i (.ofNat 0)), (.str []), (.bool false), (.i (.ofNat 0)), (.i (.ofNat 0)), (.i (.ofNat 0)), (.i (.ofNat 0)), (.i (.ofNat 0)), .nils]) [(0, 1, v0), (1, 1, (.i (.negSucc 0))), (18, 1, (.i (.negSucc 0))), (6, 1, (.i (.negSucc 0))), (19, 1, (.i (.negSucc 0))), (2, 3, v4), (5, 1, v2)] fun v5 => stV M v3 v5 21 fun M => k e M n))
def S85 : List (P × I) := [(s0, q0), (s1, q1), (s2, q2), (s6, q3), (s4, q4)]
def G85 : F2 := .mk (fun a e M n k => R85_0 a e M n fun e M n => R85_1 a e M n fun e M n => k .r e M n) [.c q3 21 true] [q0, q1, q2]
def R86_0 : RegF := fun a e M n k => e.getK q0 fun v0 => bxV 66 v0 M n fun v1 M n => VV.onAny (.bool false) (e.setK q1 v1 fun e => e.setK q6 (.bool false) fun e => k e M n)
def R86_1 : RegF := fun a e M n k => e.getK q1 fun v0 => v_fa v0 0 fun v1 => ldW M v1 1 false fun _ v2 => callV a s140 [v2] M n fun v3 M n => VV.onAny v3 (e.setK q2 v3 fun e => k e M n)
def R86_2 : RegF := fun a e M n k => e.getK q2 fun v0 => VV.onAny v0 (v_nqF false v0 fun v1 => e.setK q4 v1 fun e => k e M n)
def R86_3 : RegF := fun a e M n k => e.getK q2 fun v0 => e.getK q1 fun v1 => VV.onAny v0 (ldW M v1 9 true fun _ v2 => cvV a v0 [v2] M n fun v3 M n => VV.onAny v3 (v_ext v3 0 fun v4 => v_ext v3 1 fun v5 => alV 66 [(.i (.ofNat 0)), (.i (.ofNat 0)), (.i (.ofNat 0)), (.i (.ofNat 0)), (.i (.ofNat 0)), (.i (.ofNat 0)), (.i (.ofNat 0)), (.str []), (.str [])] M n fun v6 M n => stV M v6 v4 9 fun M => VV.onAny v5 (e.setK q3 v6 fun e => e.setK q5 v5 fun e => k e M n)))
def R86_4 : RegF := fun a e M n k => e.getK q1 fun v0 => e.getK q3 fun v1 => v_fa v0 0 fun v2 => ldW M v2 1 false fun _ v3 => v_fa v1 0 fun v4 => stV M v4 v3 1 fun M => k e M n
def R86_5 : RegF := fun a e M n k => e.getK q5 fun v0 => e.getK q3 fun v1 => e.getK q1 fun v2 => VV.onAny v0 (VV.onAny v0 (gdK v0 true .off M n (fun j => ldW M v1 9 true fun _ v => j v M n) fun v3 M n => gdK v0 true .off M n (fun j => ldW M v2 9 true fun _ v => j v M n) fun v4 M n => gdK v0 true .off M n (fun j => v_aeq false [(0, .i), (1, .i), (2, .i), (3, .i), (4, .i), (5, .i), (6, .i), (7, .s), (8, .s)] v3 v4 fun v => j v M n) fun v5 M n => v_pick v0 v5 (.bool false) fun v6 => VV.onAny v6 (e.setK q6 v6 fun e => k e M n)))
def R86_6 : RegF := fun a e M n k => VV.onAny (.bool false) (e.setK q6 (.bool false) fun e => k e M n)
def S86 : List (P × I) := [(s0, q0), (s1, q1), (s3, q2), (s4, q3), (s10, q4), (s5, q5), (s2, q6)]
def G86 : F2 := .mk (fun a e M n k => R86_0 a e M n fun e M n => R86_1 a e M n fun e M n => R86_2 a e M n fun e M n => e.getK q4 fun v => v.onB fun c => Bool.rec (R86_3 a e M n fun e M n => R86_4 a e M n fun e M n => R86_5 a e M n fun e M n => k .r e M n) (R86_6 a e M n fun e M n => k .r e M n) c) [.t q6] [q0]
def R87_0 : RegF := fun a e M n k => VV.onAny (.bool false) (e.setK q2 (.bool false) fun e => k e M n)
def R87_1 : RegF := fun a e M n k => e.getK q0 fun v0 => e.getK q1 fun v1 => VV.onAny v0 (VV.onAny v1 (callV a s141 [v0, v1] M n fun v2 M n => v_le (.i (.ofNat 0)) v2 fun v3 => VV.onAny v3 (e.setK q2 v3 fun e => k e M n)))
def S87 : List (P × I) := [(s0, q0), (s1, q1), (s4, q2)]
def G87 : F2 := .mk (fun a e M n k => R87_0 a e M n fun e M n => R87_1 a e M n fun e M n => k .r e M n) [.t q2] [q0, q1]
def R88_0 : RegF := fun a e M n k => e.getK q0 fun v0 => bxV 175 v0 M n fun v1 M n => VV.onAny (.bool false) (e.setK q1 v1 fun e => e.setK q2 (.bool false) fun e => k e M n)
def R88_1 : RegF := fun a e M n k => e.getK q1 fun v0 => ldW M v0 2 true fun _ v1 => callV a s89 [v1] M n fun v2 M n => v_not v2 fun v3 => VV.onAny v3 (e.setK q2 v3 fun e => k e M n)
def S88 : List (P × I) := [(s0, q0), (s1, q1), (s2, q2)]
def G88 : F2 := .mk (fun a e M n k => R88_0 a e M n fun e M n => R88_1 a e M n fun e M n => k .r e M n) [.t q2] [q0]
def R89_0 : RegF := fun a e M n k => e.getK q0 fun v0 => bxV 175 v0 M n fun v1 M n => VV.onAny (.bool false) (e.setK q1 v1 fun e => e.setK q2 (.bool false) fun e => k e M n)
def R89_1 : RegF := fun a e M n k => e.getK q1 fun v0 => v_fa v0 0 fun v1 => ldW M v1 1 false fun _ v2 => v_le (.i (.ofNat 1)) v2 fun v3 => VV.onAny v3 (gdK v3 true .off M n (fun j => v_fa v0 0 fun v => j v M n) fun v4 M n => gdK v3 true .off M n (fun j => ldW M v4 1 false fun _ v => j v M n) fun v5 M n => gdK v3 true .off M n (fun j => v_le v5 (.i (.ofNat 100)) fun v => j v M n) fun v6 M n => v_pick v3 v6 (.bool false) fun v7 => VV.onAny v7 (gdK v7 true .off M n (fun j => v_fa v0 1 fun v => j v M n) fun v8 M n => gdK v7 true .off M n (fun j => ldW M v8 1 false fun _ v => j v M n) fun v9 M n => gdK v7 true .off M n (fun j => v_le (.i (.ofNat 1)) v9 fun v => j v M n) fun v10 M n => v_pick v7 v10 (.bool false) fun v11 => VV.onAny v11 (gdK v11 true .off M n (fun j => v_fa v0 1 fun v => j v M n) fun v12 M n => gdK v11 true .off M n (fun j => ldW M v12 1 false fun _ v => j v M n) fun v13 M n => gdK v11 true .off M n (fun j => v_le v13 (.i (.ofNat 1000)) fun v => j v M n) fun v14 M n => v_pick v11 v14 (.bool false) fun v15 => VV.onAny v15 (e.setK q2 v15 fun e => k e M n))))
def S89 : List (P × I) := [(s0, q0), (s1, q1), (s2, q2)]
def G89 : F2 := .mk (fun a e M n k => R89_0 a e M n fun e M n => R89_1 a e M n fun e M n => k .r e M n) [.t q2] [q0]
def R90_0 : RegF := fun a e M n k => VV.onAny (.nils) (e.setK q2 (.nils) fun e => k e M n)
def R90_1 : RegF := fun a e M n k => e.getK q0 fun v0 => VV.onAny v0 (v_nqS false v0 fun v1 => e.setK q1 v1 fun e => k e M n)
def R90_2 : RegF := fun a e M n k => e.getK q0 fun v0 => bslV 175 2 0 [] [] M n fun v1 M n => VV.onAny v0 (appV 175 2 16 v1 v0 M n fun v2 M n => VV.onAny v2 (e.setK q2 v2 fun e => k e M n))
def R90_3 : RegF := fun a e M n k => VV.onAny (.nils) (e.setK q2 (.nils) fun e => k e M n)
def S90 : List (P × I) := [(s0, q0), (s4, q1), (s2, q2)]
def G90 : F2 := .mk (fun a e M n k => R90_0 a e M n fun e M n => R90_1 a e M n fun e M n => e.getK q1 fun v => v.onB fun c => Bool.rec (R90_2 a e M n fun e M n => k .r e M n) (R90_3 a e M n fun e M n => k .r e M n) c) [.t q2] [q0]
def R91_0 : RegF := fun a e M n k => VV.onAny (.nil) (VV.onAny (.i (.ofNat 0)) (e.setK q2 (.nil) fun e => e.setK q3 (.i (.ofNat 0)) fun e => k e M n))
def R91_1 : RegF := fun a e M n k => e.getK q0 fun v0 => VV.onAny v0 (v_lt v0 (.i (.ofNat 1)) fun v1 => VV.onAny v1 (gdK v1 false .off M n (fun j => v_mv v0 fun v => j v M n) fun v2 M n => gdK v1 false .off M n (fun j => v_lt (.i (.ofNat 64)) v2 fun v => j v M n) fun v3 M n => v_pick v1 (.bool true) v3 fun v4 => e.setK q1 v4 fun e => k e M n))
def R91_2 : RegF := fun a e M n k => e.getK q0 fun v0 => (fun M0 => VV.onAny v0 (mksV 310 64 64 (rep 64 (.int .u8 (.ofNat 0))) v0 v0 M n fun v1 M n => VV.onAny v0 (mksV 3 1 8 [(.i (.ofNat 0))] v0 v0 M n fun v2 M n => v_bld [.nils, .nils, .nils, (.i (.ofNat 0))] [(0, 1, v1), (1, 1, v2)] fun v3 => bxV 236 v3 M n fun v4 M n => VV.onAny v4 (VV.onAny (.i (.ofNat 0)) (Bool.rec false (e.setK q2 v4 fun e => e.setK q3 (.i (.ofNat 0)) fun e => k e M n) (keptB M0 M [])))))) M
def R91_3 : RegF := fun a e M n k => VV.onAny (.nil) (VV.onAny (.i (.ofNat 2)) (e.setK q2 (.nil) fun e => e.setK q3 (.i (.ofNat 2)) fun e => k e M n))
def S91 : List (P × I) := [(s0, q0), (s9, q1), (s2, q2), (s3, q3)]
def G91 : F2 := .mk (fun a e M n k => R91_0 a e M n fun e M n => R91_1 a e M n fun e M n => e.getK q1 fun v => v.onB fun c => Bool.rec (R91_2 a e M n fun e M n => k .r e M n) (R91_3 a e M n fun e M n => k .r e M n) c) [.t q2, .t q3] [q0]
def R92_0 : RegF := fun a e M n k => VV.onAny (.nil) (e.setK q2 (.nil) fun e => k e M n)
def R92_1 : RegF := fun a e M n k => e.getK q0 fun v0 => VV.onAny v0 (callV a s142 [v0] M n fun v1 M n => VV.onAny v1 (e.setK q1 v1 fun e => k e M n))
def R92_2 : RegF := fun a e M n k => e.getK q1 fun v0 => VV.onAny v0 (VV.onAny v0 (callV a s143 [v0] M n fun v1 M n => v_bld [.nil, .nil] [(0, 1, v0), (1, 1, v1)] fun v2 => bxV 242 v2 M n fun v3 M n => VV.onAny v3 (e.setK q2 v3 fun e => k e M n)))
def S92 : List (P × I) := [(s0, q0), (s3, q1), (s2, q2)]
def G92 : F2 := .mk (fun a e M n k => R92_0 a e M n fun e M n => R92_1 a e M n fun e M n => R92_2 a e M n fun e M n => k .r e M n) [.t q2] [q0]
def R93_0 : RegF := fun a e M n k => VV.onAny (.nil) (e.setK q2 (.nil) fun e => k e M n)
def R93_1 : RegF := fun a e M n k => e.getK q0 fun v0 => e.getK q1 fun v1 => VV.onAny v0 (VV.onAny v1 (mkmV M n fun v2 M n => v_bld [.nil, .nil, .nilm] [(0, 1, v0), (1, 1, v1), (2, 1, v2)] fun v3 => bxV 245 v3 M n fun v4 M n => VV.onAny v4 (e.setK q2 v4 fun e => k e M n)))
def S93 : List (P × I) := [(s0, q0), (s1, q1), (s4, q2)]
def G93 : F2 := .mk (fun a e M n k => R93_0 a e M n fun e M n => R93_1 a e M n fun e M n => k .r e M n) [.t q2] [q0, q1]
def R94_0 : RegF := fun a e M n k => VV.onAny (.nil) (e.setK q1 (.nil) fun e => k e M n)
def R94_1 : RegF := fun a e M n k => e.getK q0 fun v0 => VV.onAny v0 (v_bld [.nil, .nil, .nil, .nil, .nil] [(0, 1, v0)] fun v1 => bxV 249 v1 M n fun v2 M n => VV.onAny v2 (e.setK q1 v2 fun e => k e M n))
def S94 : List (P × I) := [(s0, q0), (s2, q1)]
def G94 : F2 := .mk (fun a e M n k => R94_0 a e M n fun e M n => R94_1 a e M n fun e M n => k .r e M n) [.t q1] [q0]
def R95_0 : RegF := fun a e M n k => VV.onAny (.nil) (e.setK q1 (.nil) fun e => k e M n)
def R95_1 : RegF := fun a e M n k => e.getK q0 fun v0 => VV.onAny v0 (v_mkf s144 [v0] [] fun v1 => VV.onAny v0 (v_mkf s145 [v0] [] fun v2 => mkmV M n fun v3 M n => v_bld [.nilf, .nilf, .nilm] [(0, 1, v1), (1, 1, v2), (2, 1, v3)] fun v4 => bxV 253 v4 M n fun v5 M n => VV.onAny v5 (e.setK q1 v5 fun e => k e M n)))
def S95 : List (P × I) := [(s0, q0), (s2, q1)]
def G95 : F2 := .mk (fun a e M n k => R95_0 a e M n fun e M n => R95_1 a e M n fun e M n => k .r e M n) [.t q1] [q0]
def R96_0 : RegF := fun a e M n k => VV.onAny (.nil) (e.setK q0 (.nil) fun e => k e M n)
def R96_1 : RegF := fun a e M n k => mkmV M n fun v0 M n => v_bld [.nilm] [(0, 1, v0)] fun v1 => bxV 256 v1 M n fun v2 M n => VV.onAny v2 (e.setK q0 v2 fun e => k e M n)
def S96 : List (P × I) := [(s0, q0)]
def G96 : F2 := .mk (fun a e M n k => R96_0 a e M n fun e M n => R96_1 a e M n fun e M n => k .r e M n) [.t q0] []
def R97_0 : RegF := fun a e M n k => VV.onAny (.i (.ofNat 0)) (e.setK q8 (.i (.ofNat 0)) fun e => k e M n)
def R97_1 : RegF := fun a e M n k => e.getK q0 fun v0 => VV.onAny v0 (v_nqP false v0 fun v1 => e.setK q3 v1 fun e => k e M n)
def R97_2 : RegF := fun a e M n k => e.getK q0 fun v0 => e.getK q1 fun v1 => VV.onAny v0 (v_nck v0 fun v2 => v_fa v2 0 fun v3 => ldW M v3 1 false fun _ v4 => VV.onAny v1 (lkuV (.agg [(.i (.ofNat 0)), (.i (.ofNat 0)), (.bool false)]) true v4 v1 M fun v5 => VV.onAny v5 (v_ext v5 0 fun v6 => v_ext v5 1 fun v7 => alV 258 [(.i (.ofNat 0)), (.i (.ofNat 0)), (.bool false)] M n fun v8 M n => stV M v8 v6 3 fun M => VV.onAny v7 (e.setK q5 v7 fun e => k e M n))))
def R97_3 : RegF := fun a e M n k => e.getK q1 fun v0 => VV.onAny v0 (v_lt v0 (.i (.ofNat 0)) fun v1 => VV.onAny v1 (e.setK q4 v1 fun e => k e M n))
def R97_4 : RegF := fun a e M n k => e.getK q5 fun v0 => VV.onAny v0 (VV.onAny v0 (e.setK q6 v0 fun e => k e M n))
def R97_5 : RegF := fun a e M n k => e.getK q2 fun v0 => e.getK q0 fun v1 => VV.onAny v0 (v_ne v0 (.i (.negSucc 0)) fun v2 => VV.onAny v2 (gdK v2 true .off M n (fun j => v_mv v1 fun v => j v M n) fun v3 M n => gdK v2 true .off M n (fun j => v_mv v0 fun v => j v M n) fun v4 M n => gdK v2 true .no M n (fun j => callV a s146 [v3, v4] M n fun v M n => j v M n) fun v5 M n => gdK v2 true .off M n (fun j => v_not v5 fun v => j v M n) fun v6 M n => v_pick v2 v6 (.bool false) fun v7 => VV.onAny v7 (e.setK q7 v7 fun e => k e M n)))
def R97_6 : RegF := fun a e M n k => e.getK q0 fun v0 => e.getK q1 fun v1 => e.getK q2 fun v2 => VV.onAny v0 (v_nck v0 fun v3 => v_fa v3 0 fun v4 => ldW M v4 1 false fun _ v5 => VV.onAny v1 (VV.onAny v2 (v_bld [(.i (.ofNat 0)), (.i (.ofNat 0)), (.bool false)] [(0, 1, v2)] fun v6 => mupV v5 v1 v6 M fun M => k e M n)))
def R97_7 : RegF := fun a e M n k => VV.onAny (.i (.ofNat 0)) (e.setK q8 (.i (.ofNat 0)) fun e => k e M n)
def R97_8 : RegF := fun a e M n k => VV.onAny (.i (.ofNat 4)) (e.setK q8 (.i (.ofNat 4)) fun e => k e M n)
def R97_9 : RegF := fun a e M n k => VV.onAny (.i (.ofNat 5)) (e.setK q8 (.i (.ofNat 5)) fun e => k e M n)
def R97_10 : RegF := fun a e M n k => VV.onAny (.i (.ofNat 2)) (e.setK q8 (.i (.ofNat 2)) fun e => k e M n)
def R97_11 : RegF := fun a e M n k => VV.onAny (.i (.ofNat 1)) (e.setK q8 (.i (.ofNat 1)) fun e => k e M n)
def S97 : List (P × I) := [(s0, q0), (s1, q1), (s2, q2), (s10, q3), (s20, q4), (s8, q5), (s23, q6), (s25, q7), (s6, q8)]
def G97 : F2 := .mk (fun a e M n k => R97_0 a e M n fun e M n => R97_1 a e M n fun e M n => e.getK q3 fun v => v.onB fun c => Bool.rec (R97_2 a e M n fun e M n => R97_3 a e M n fun e M n => e.getK q4 fun v => v.onB fun c => Bool.rec (R97_4 a e M n fun e M n => e.getK q6 fun v => v.onB fun c => Bool.rec (R97_5 a e M n fun e M n => e.getK q7 fun v => v.onB fun c => Bool.rec (R97_6 a e M n fun e M n => R97_7 a e M n fun e M n => k .r e M n) (R97_8 a e M n fun e M n => k .r e M n) c) (R97_9 a e M n fun e M n => k .r e M n) c) (R97_10 a e M n fun e M n => k .r e M n) c) (R97_11 a e M n fun e M n => k .r e M n) c) [.t q8] [q0, q1, q2]
def R98_0 : RegF := fun a e M n k => VV.onAny (.i (.ofNat 0)) (e.setK q5 (.i (.ofNat 0)) fun e => k e M n)
def R98_1 : RegF := fun a e M n k => e.getK q0 fun v0 => VV.onAny v0 (v_nqP false v0 fun v1 => VV.onAny v1 (e.setK q2 v1 fun e => k e M n))
def R98_2 : RegF := fun a e M n k => e.getK q1 fun v0 => VV.onAny v0 (v_lt v0 (.i (.ofNat 0)) fun v1 => VV.onAny v1 (e.setK q3 v1 fun e => k e M n))
def R98_3 : RegF := fun a e M n k => e.getK q0 fun v0 => e.getK q1 fun v1 => VV.onAny v0 (v_nck v0 fun v2 => v_fa v2 2 fun v3 => ldW M v3 1 false fun _ v4 => VV.onAny v1 (lkuV .nil false v4 v1 M fun v5 => v_nqP true v5 fun v6 => VV.onAny v6 (e.setK q4 v6 fun e => k e M n)))
def R98_4 : RegF := fun a e M n k => e.getK q0 fun v0 => e.getK q1 fun v1 => VV.onAny v0 (v_nck v0 fun v2 => v_fa v2 2 fun v3 => ldW M v3 1 false fun _ v4 => VV.onAny v1 (v_bld [.nil, .nil, .nil, .nil, .nil, .nil, .nil, .nil] [] fun v5 => bxV 263 v5 M n fun v6 M n => mupV v4 v1 v6 M fun M => k e M n))
def R98_5 : RegF := fun a e M n k => VV.onAny (.i (.ofNat 0)) (e.setK q5 (.i (.ofNat 0)) fun e => k e M n)
def R98_6 : RegF := fun a e M n k => VV.onAny (.i (.ofNat 5)) (e.setK q5 (.i (.ofNat 5)) fun e => k e M n)
def R98_7 : RegF := fun a e M n k => VV.onAny (.i (.ofNat 2)) (e.setK q5 (.i (.ofNat 2)) fun e => k e M n)
def R98_8 : RegF := fun a e M n k => VV.onAny (.i (.ofNat 1)) (e.setK q5 (.i (.ofNat 1)) fun e => k e M n)
def S98 : List (P × I) := [(s0, q0), (s1, q1), (s5, q2), (s8, q3), (s11, q4), (s4, q5)]
def G98 : F2 := .mk (fun a e M n k => R98_0 a e M n fun e M n => R98_1 a e M n fun e M n => e.getK q2 fun v => v.onB fun c => Bool.rec (R98_2 a e M n fun e M n => e.getK q3 fun v => v.onB fun c => Bool.rec (R98_3 a e M n fun e M n => e.getK q4 fun v => v.onB fun c => Bool.rec (R98_4 a e M n fun e M n => R98_5 a e M n fun e M n => k .r e M n) (R98_6 a e M n fun e M n => k .r e M n) c) (R98_7 a e M n fun e M n => k .r e M n) c) (R98_8 a e M n fun e M n => k .r e M n) c) [.t q5] [q0, q1]
def R99_0 : RegF := fun a e M n k => VV.onAny (.bool true) (e.setK q7 (.bool true) fun e => k e M n)
def R99_1 : RegF := fun a e M n k => VV.onAny (.bool true) (e.setK q16 (.bool true) fun e => k e M n)
def R99_2 : RegF := fun a e M n k => e.getK q2 fun v0 => e.getK q1 fun v1 => VV.onAny v0 (VV.onAny v1 (v_sub v0 v1 fun v2 => VV.onAny v2 (e.setK q6 v2 fun e => k e M n)))
def R99_3 : RegF := fun a e M n k => e.getK q6 fun v0 => VV.onAny v0 (v_le v0 (.i (.ofNat 12)) fun v1 => e.setK q12 v1 fun e => k e M n)
def R99_4 : RegF := fun a e M n k => e.getK q0 fun v0 => e.getK q1 fun v1 => e.getK q2 fun v2 => VV.onAny v0 (VV.onAny v1 (VV.onAny v2 (callV a s147 [v0, v1, v2] M n fun v3 M n => k e M n)))
def R99_5 : RegF := fun a e M n k => e.getK q3 fun v0 => VV.onAny v0 (v_eq v0 (.i (.ofNat 0)) fun v1 => e.setK q13 v1 fun e => k e M n)
def R99_6 : RegF := fun a e M n k => e.getK q0 fun v0 => e.getK q1 fun v1 => e.getK q2 fun v2 => VV.onAny v0 (VV.onAny v1 (VV.onAny v2 (callV a s148 [v0, v1, v2] M n fun v3 M n => k e M n)))
def R99_7 : RegF := fun a e M n k => e.getK q7 fun v0 => VV.onAny v0 (v_not v0 fun v1 => e.setK q14 v1 fun e => k e M n)
def R99_8 : RegF := fun a e M n k => e.getK q0 fun v0 => e.getK q1 fun v1 => e.getK q2 fun v2 => VV.onAny v0 (VV.onAny v1 (VV.onAny v2 (callV a s149 [v0, v1, v2] M n fun v3 M n => k e M n)))
def R99_9 : RegF := fun a e M n k => e.getK q3 fun v0 => VV.onAny v0 (v_sub v0 (.i (.ofNat 1)) fun v1 => VV.onAny v1 (e.setK q3 v1 fun e => k e M n))
def R99_10 : RegF := fun a e M n k => e.getK q0 fun v0 => e.getK q1 fun v1 => e.getK q2 fun v2 => VV.onAny v0 (VV.onAny v1 (VV.onAny v2 (callV a s150 [v0, v1, v2] M n fun v3 M n => VV.onAny v3 (v_ext v3 0 fun v4 => v_ext v3 1 fun v5 => VV.onAny v4 (VV.onAny v5 (e.setK q5 v4 fun e => e.setK q8 v5 fun e => k e M n))))))
def R99_11 : RegF := fun a e M n k => e.getK q8 fun v0 => VV.onAny v0 (v_eq v0 (.i (.ofNat 2)) fun v1 => e.setK q15 v1 fun e => k e M n)
def R99_12 : RegF := fun a e M n k => e.getK q0 fun v0 => e.getK q1 fun v1 => e.getK q2 fun v2 => VV.onAny v0 (VV.onAny v1 (VV.onAny v2 (callV a s151 [v0, v1, v2] M n fun v3 M n => k e M n)))
def R99_13 : RegF := fun a e M n k => e.getK q2 fun v0 => e.getK q5 fun v1 => e.getK q1 fun v2 => VV.onAny v0 (v_sub v0 (.i (.ofNat 1)) fun v3 => VV.onAny v1 (VV.onAny v2 (v_sub v1 v2 fun v4 => v_sub v3 v4 fun v5 => VV.onAny v5 (e.setK q5 v5 fun e => k e M n))))
def R99_14 : RegF := fun a e M n k => VV.onAny (.i (.ofNat 1)) (e.setK q8 (.i (.ofNat 1)) fun e => k e M n)
def R99_15 : RegF := fun a e M n k => e.getK q7 fun v0 => e.getK q16 fun v1 => e.getK q8 fun v2 => VV.onAny v0 (VV.onAny v0 (gdK v0 true .off M n (fun j => v_mv v1 fun v => j v M n) fun v3 M n => v_pick v0 v3 (.bool false) fun v4 => VV.onAny v4 (gdK v4 true .off M n (fun j => v_mv v2 fun v => j v M n) fun v5 M n => gdK v4 true .off M n (fun j => v_eq v5 (.i (.ofNat 1)) fun v => j v M n) fun v6 M n => v_pick v4 v6 (.bool false) fun v7 => e.setK q17 v7 fun e => k e M n)))
def R99_16 : RegF := fun a e M n k => e.getK q0 fun v0 => e.getK q1 fun v1 => e.getK q2 fun v2 => VV.onAny v0 (VV.onAny v1 (VV.onAny v2 (callV a s152 [v0, v1, v2] M n fun v3 M n => e.setK q18 v3 fun e => k e M n)))
def R99_17 : RegF := fun a e M n k => e.getK q1 fun v0 => e.getK q0 fun v1 => e.getK q5 fun v2 => (fun M0 => VV.onAny v0 (v_lt (.i (.ofNat 0)) v0 fun v3 => VV.onAny v3 (gdK v3 true .off M n (fun j => v_mv v1 fun v => j v M n) fun v4 M n => gdK v3 true .off M n (fun j => v_mv v0 fun v => j v M n) fun v5 M n => gdK v3 true .off M n (fun j => v_sub v5 (.i (.ofNat 1)) fun v => j v M n) fun v6 M n => gdK v3 true .off M n (fun j => v_ixS v4 v6 1 fun v => j v M n) fun v7 M n => gdK v3 true .off M n (fun j => ldW M v7 1 false fun _ v => j v M n) fun v8 M n => gdK v3 true .off M n (fun j => v_mv v1 fun v => j v M n) fun v9 M n => gdK v3 true .off M n (fun j => v_mv v2 fun v => j v M n) fun v10 M n => gdK v3 true .off M n (fun j => v_ixS v9 v10 1 fun v => j v M n) fun v11 M n => gdK v3 true .off M n (fun j => ldW M v11 1 false fun _ v => j v M n) fun v12 M n => gdK v3 true .no M n (fun j => callV a s153 [v8, v12] M n fun v M n => j v M n) fun v13 M n => gdK v3 true .off M n (fun j => v_not v13 fun v => j v M n) fun v14 M n => v_pick v3 v14 (.bool false) fun v15 => Bool.rec false (e.setK q19 v15 fun e => k e M n) (keptB M0 M [])))) M
def R99_18 : RegF := fun a e M n k => e.getK q0 fun v0 => e.getK q1 fun v1 => e.getK q2 fun v2 => e.getK q5 fun v3 => VV.onAny v0 (VV.onAny v1 (VV.onAny v2 (VV.onAny v3 (callV a s154 [v0, v1, v2, v3] M n fun v4 M n => VV.onAny v4 (e.setK q20 v4 fun e => k e M n)))))
def R99_19 : RegF := fun a e M n k => e.getK q20 fun v0 => VV.onAny v0 (VV.onAny v0 (e.setK q1 v0 fun e => k e M n))
def R99_20 : RegF := fun a e M n k => e.getK q0 fun v0 => e.getK q1 fun v1 => e.getK q2 fun v2 => e.getK q5 fun v3 => VV.onAny v0 (VV.onAny v1 (VV.onAny v2 (VV.onAny v3 (callV a s155 [v0, v1, v2, v3] M n fun v4 M n => VV.onAny v4 (v_ext v4 0 fun v5 => v_ext v4 1 fun v6 => VV.onAny v5 (VV.onAny v6 (e.setK q4 v5 fun e => e.setK q21 v6 fun e => k e M n)))))))
def R99_21 : RegF := fun a e M n k => e.getK q21 fun v0 => VV.onAny v0 (VV.onAny v0 (e.setK q16 v0 fun e => k e M n))
def R99_22 : RegF := fun a e M n k => e.getK q4 fun v0 => e.getK q1 fun v1 => e.getK q2 fun v2 => VV.onAny v0 (VV.onAny v1 (v_sub v0 v1 fun v3 => VV.onAny v2 (VV.onAny v0 (v_sub v2 v0 fun v4 => VV.onAny v3 (VV.onAny v4 (e.setK q9 v3 fun e => e.setK q10 v4 fun e => k e M n))))))
def R99_23 : RegF := fun a e M n k => e.getK q6 fun v0 => VV.onAny v0 (v_quo v0 (.i (.ofNat 8)) fun v1 => VV.onAny v1 (e.setK q11 v1 fun e => k e M n))
def R99_24 : RegF := fun a e M n k => e.getK q9 fun v0 => e.getK q10 fun v1 => VV.onAny v0 (VV.onAny v1 (v_lt v0 v1 fun v2 => e.setK q22 v2 fun e => k e M n))
def R99_25 : RegF := fun a e M n k => e.getK q9 fun v0 => e.getK q11 fun v1 => VV.onAny v0 (VV.onAny v1 (v_le v1 v0 fun v2 => VV.onAny v2 (e.setK q7 v2 fun e => k e M n)))
def R99_26 : RegF := fun a e M n k => e.getK q0 fun v0 => e.getK q1 fun v1 => e.getK q4 fun v2 => e.getK q3 fun v3 => VV.onAny v0 (VV.onAny v1 (VV.onAny v2 (VV.onAny v3 (callV a s99 [v0, v1, v2, v3] M n fun v4 M n => k e M n))))
def R99_27 : RegF := fun a e M n k => e.getK q4 fun v0 => VV.onAny v0 (v_add v0 (.i (.ofNat 1)) fun v1 => VV.onAny v1 (e.setK q1 v1 fun e => k e M n))
def R99_28 : RegF := fun a e M n k => e.getK q10 fun v0 => e.getK q11 fun v1 => VV.onAny v0 (VV.onAny v1 (v_le v1 v0 fun v2 => VV.onAny v2 (e.setK q7 v2 fun e => k e M n)))
def R99_29 : RegF := fun a e M n k => e.getK q0 fun v0 => e.getK q4 fun v1 => e.getK q2 fun v2 => e.getK q3 fun v3 => VV.onAny v0 (VV.onAny v1 (v_add v1 (.i (.ofNat 1)) fun v4 => VV.onAny v2 (VV.onAny v3 (callV a s99 [v0, v4, v2, v3] M n fun v5 M n => k e M n))))
def R99_30 : RegF := fun a e M n k => e.getK q4 fun v0 => VV.onAny v0 (VV.onAny v0 (e.setK q2 v0 fun e => k e M n))
def S99 : List (P × I) := [(s0, q0), (s1, q1), (s2, q2), (s3, q3), (s14, q4), (s11, q5), (s10, q6), (s8, q7), (s12, q8), (s16, q9), (s17, q10), (s18, q11), (s23, q12), (s29, q13), (s35, q14), (s50, q15), (s9, q16), (s68, q17), (s72, q18), (s87, q19), (s13, q20), (s15, q21), (s113, q22)]
def G99 : F2 := .mk ((c_seq (c_fn R99_0) (c_seq (c_fn R99_1) (c_blk 0 (loopK (c_blk 1 (c_seq (c_fn R99_2) (c_seq (c_seq (c_fn R99_3) (c_cond (.t q12) (c_seq (c_fn R99_4) c_ret) c_skip)) (c_seq (c_seq (c_fn R99_5) (c_cond (.t q13) (c_seq (c_fn R99_6) c_ret) c_skip)) (c_seq (c_seq (c_fn R99_7) (c_cond (.t q14) (c_seq (c_fn R99_8) (c_fn R99_9)) c_skip)) (c_seq (c_fn R99_10) (c_seq (c_seq (c_fn R99_11) (c_cond (.t q15) (c_seq (c_fn R99_12) (c_seq (c_fn R99_13) (c_fn R99_14))) c_skip)) (c_seq (c_seq (c_fn R99_15) (c_cond (.t q17) (c_seq (c_fn R99_16) (c_cond (.t q18) c_ret c_skip)) c_skip)) (c_seq (c_seq (c_fn R99_17) (c_cond (.t q19) (c_seq (c_fn R99_18) (c_seq (c_fn R99_19) (c_exit 1))) c_skip)) (c_seq (c_fn R99_20) (c_seq (c_fn R99_21) (c_seq (c_fn R99_22) (c_seq (c_fn R99_23) (c_seq (c_fn R99_24) (c_cond (.t q22) (c_seq (c_fn R99_25) (c_seq (c_fn R99_26) (c_fn R99_27))) (c_seq (c_fn R99_28) (c_seq (c_fn R99_29) (c_fn R99_30))))))))))))))))))))))) [] [q0, q1, q2, q3]
end
end Ast
