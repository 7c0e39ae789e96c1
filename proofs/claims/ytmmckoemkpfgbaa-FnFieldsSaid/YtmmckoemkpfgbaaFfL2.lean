/- A loop of laws.FnFields, cut out: a theorem of its own over a frame of letters; no condition. -/
import Derived.Test.YtmmckoemkpfgbaaLop
import Derived.Test.YtmmckoemkpfgbaaFfQ
import Derived.Test.YtmmckoemkpfgbaaFfA
import Derived.Test.YtmmckoemkpfgbaaFfL1
set_option linter.unusedVariables false
namespace Go.Proofs.Ytmmckoemkpfgbaa
open Go.BigFrame
open Go.RowKit Go.Arr
theorem edK_le (a b : Int) (Q : List Nat) (c k : Nat) : edK a b Q c k ≤ k := by
  induction k with
  | zero => simp [edK]
  | succ k ih => unfold edK; split <;> omega
theorem outU_b (a b : Int) (f : Nat → Int) (c k j : Nat) (hk : k ≤ 4) (hc : c ≤ 144) : 0 ≤ outU a b f c k j ∧ outU a b f c k j ≤ 1000 := by
  have h1 := outS_b a b (rowQ a b f j) c
  have h2 := edK_le a b (rowQ a b f j) c k
  unfold outU
  split <;> omega
theorem bs_arr (c : Nat) : arr 4 .i64 (bsI c) = #[.int .i64 ((c : Int) - 12), .int .i64 ((c : Int) - 1), .int .i64 ((c : Int) + 1), .int .i64 ((c : Int) + 12)] := by
  simp [arr, bsI, List.range_succ]
theorem bs_b (c k : Nat) (hc : c < 144) : -20 ≤ bsI c k ∧ bsI c k ≤ 200 := by
  unfold bsI
  repeat' split
  all_goals omega
noncomputable def ffL2Body : Code := loopIn (Try.f3.body.getD .skip) 1
set_option maxHeartbeats 4000000 in
set_option maxRecDepth 1000000 in
theorem ffL2 (a b : Int) (f : Nat → Int) (ha : 1 ≤ a ∧ a ≤ 12) (hb : 1 ≤ b ∧ b ≤ 12) (hf : ∀ i, 0 ≤ f i ∧ f i ≤ 255) (hok : Hid (okPic a b f = true)) (N gP gO gL gD base cD : Nat) (vs : Nat → Value) (wB w9 : World)
    (hN : fsN a b f 144 = N) (oP : Hid (obj wB gP = some (.cells (pic 144 a b f) 27))) (oO : Hid (obj wB gO = some (.cells (arr 144 .i64 fun c => (ownN a b f c : Nat)) 33))) (hrr : Hid (RR wB base (.slice (some ⟨gD, 0, none⟩) N cD) N vs (fsM a b f 144) (fsF a b f 144))) (lL : wB.heap.size ≤ gL)
    (oL : obj w9 gL = some (.cells (arr N .i64 (outU a b f 0 0)) 2)) (hN9 : New wB w9)
    (Q0 : Exit → Act → World → Prop) (s0 s1 s2 s3 s4 s6 s7 s9 s11 s12 s13 s14 s17 s18 s19 s20 s21 s22 s23 s24 s25 s26 s27 s28 s29 s30 s31 s32 s33 s34 s35 s36 s37 s38 s39 s40 s41 s42 s43 s44 s45 s46 s47 s48 s49 s50 s51 s52 s53 s54 s55 s56 s57 s58 s59 s60 s61 s62 s63 s64 s65 s66 s67 s68 s69 s70 s71 s72 s73 s74 s75 s76 s77 s78 s79 s80 s81 s82 s83 s84 s85 s86 s87 s88 s89 s90 s91 s92 s93 s94 s95 s96 s97 s98 s99 s100 s101 s102 s103 s104 s105 s106 s107 s108 s109 s110 s111 s112 s113 s114 s115 s116 s117 s118 s119 s120 s121 s122 s123 s124 s125 s126 s127 s128 s129 s130 s131 s132 s133 s134 s135 s136 s137 s138 s139 s140 s141 s142 s143 s144 s145 s146 s147 s148 s149 s150 s151 s152 s153 s154 s155 s156 s157 s158 s159 s160 s161 s162 s163 s164 s165 s166 s167 s168 s169 s170 s171 s172 s173 s174 s175 s176 s177 s178 s179 s180 s181 s182 s183 s184 s185 s186 s187 s188 s189 s190 s191 s192 s193 s194 s195 s196 s197 s198 s199 s200 s201 s202 s203 s204 s205 s206 s207 s208 s209 s210 s211 s212 s213 s214 s215 s216 s217 s218 s219 s220 s221 s222 s223 s224 s225 s226 s227 s228 s229 s230 s231 s232 s233 s234 s235 s236 s237 s238 s239 s240 s241 s242 s243 s244 s245 s246 s247 s248 s249 s250 s251 s252 s253 s254 s255 s256 s257 s258 s259 s260 s261 s262 s263 s264 s265 s266 s267 s268 s269 s270 s271 s272 s273 s274 s275 s276 s277 s278 s279 s280 s281 s282 s283 s284 s285 s286 s287 s288 s289 s290 s291 s292 s293 s294 s295 s296 s297 s298 s299 s300 s301 s302 s303 s304 s305 s306 s307 s308 s309 s310 s311 s312 s313 s314 s315 s316 s317 s318 s319 s320 s321 s322 s323 s324 s325 s326 s327 s328 s329 s330 s331 s332 s333 s334 s335 s336 s337 s338 s339 s340 s341 s342 s343 s344 s345 s346 s347 s348 s349 s350 s351 s352 s353 s354 s355 s356 s357 s358 s359 s360 s361 s362 s363 s364 s365 s366 s367 s368 s369 s370 s371 s372 s373 s374 s375 s376 s377 s378 s379 s380 s381 s382 s383 s384 s385 s386 s387 s388 s389 s390 s391 s392 s393 s394 s395 s396 s397 s398 s399 s400 s401 s402 s403 s404 s405 s406 s407 s408 s409 s410 s411 s412 s413 s414 s415 s416 s417 s418 s419 s420 s421 s422 s423 s424 s425 s426 s427 s428 s429 s430 s431 s432 s433 s434 s435 s436 s437 s438 s439 s440 s441 s442 s443 s444 s445 s446 s447 s448 s449 s450 s451 s452 s453 s454 s455 s456 s457 s458 s459 s460 s461 s462 s463 s464 s465 s466 s467 s468 s469 s470 s471 s472 s473 s474 s475 s476 s477 s478 s479 s480 s481 s482 s483 s484 s485 s486 s487 s488 s489 s490 s491 s492 s493 s494 s495 s496 s497 s498 s499 s500 : Value)
    (hexit : ∀ (u4 u16 u17 u18 u19 u20 u21 u22 u171 u172 u173 u174 u175 u176 u177 u178 u179 u180 u181 u182 u183 u184 u185 u186 u187 u188 u189 u190 u191 u192 u193 u194 u195 u196 u197 u198 u199 u200 u201 u202 u203 u204 u205 u206 u207 u208 u209 u210 u211 u212 u213 u214 u215 u216 u217 u218 u219 u220 u221 u222 u223 u224 u225 u226 u227 u228 u229 u230 u231 u232 u233 u234 u235 u236 u237 u238 u239 u240 u241 u242 u243 u244 u245 u246 u247 u248 u249 u250 u251 u252 u253 u254 u255 u256 u257 u258 u259 u260 u261 u262 u263 u264 u265 u266 u267 u268 u269 u270 u271 u272 u273 u274 u275 u276 u277 : Value) (w' : World), obj w' gL = some (.cells (arr N .i64 (outU a b f 144 0)) 2) → New wB w' →
      Q0 (.exit 4) ⟨List.toArray (s0 :: s1 :: s2 :: s3 :: u4 :: (.pointer (some ⟨gP, 0, none⟩)) :: s6 :: s7 :: (.slice (some ⟨gD, 0, none⟩) N cD) :: s9 :: (.pointer (some ⟨gO, 0, none⟩)) :: s11 :: s12 :: s13 :: s14 :: (.slice (some ⟨gL, 0, none⟩) N N) :: u16 :: u17 :: u18 :: u19 :: u20 :: u21 :: u22 :: s23 :: s24 :: s25 :: s26 :: s27 :: s28 :: s29 :: s30 :: s31 :: s32 :: s33 :: s34 :: s35 :: s36 :: s37 :: s38 :: s39 :: s40 :: s41 :: s42 :: s43 :: s44 :: s45 :: s46 :: s47 :: s48 :: s49 :: s50 :: s51 :: s52 :: s53 :: s54 :: s55 :: s56 :: s57 :: s58 :: s59 :: s60 :: s61 :: s62 :: s63 :: s64 :: s65 :: s66 :: s67 :: s68 :: s69 :: s70 :: s71 :: s72 :: s73 :: s74 :: s75 :: s76 :: s77 :: s78 :: s79 :: s80 :: s81 :: s82 :: s83 :: s84 :: s85 :: s86 :: s87 :: s88 :: s89 :: s90 :: s91 :: s92 :: s93 :: s94 :: s95 :: s96 :: s97 :: s98 :: s99 :: s100 :: s101 :: s102 :: s103 :: s104 :: s105 :: s106 :: s107 :: s108 :: s109 :: s110 :: s111 :: s112 :: s113 :: s114 :: s115 :: s116 :: s117 :: s118 :: s119 :: s120 :: s121 :: s122 :: s123 :: s124 :: s125 :: s126 :: s127 :: s128 :: s129 :: s130 :: s131 :: s132 :: s133 :: s134 :: s135 :: s136 :: s137 :: s138 :: s139 :: s140 :: s141 :: s142 :: s143 :: s144 :: s145 :: s146 :: s147 :: s148 :: s149 :: s150 :: s151 :: s152 :: s153 :: s154 :: s155 :: s156 :: s157 :: s158 :: s159 :: s160 :: s161 :: s162 :: s163 :: s164 :: s165 :: s166 :: s167 :: s168 :: s169 :: s170 :: u171 :: u172 :: u173 :: u174 :: u175 :: u176 :: u177 :: u178 :: u179 :: u180 :: u181 :: u182 :: u183 :: u184 :: u185 :: u186 :: u187 :: u188 :: u189 :: u190 :: u191 :: u192 :: u193 :: u194 :: u195 :: u196 :: u197 :: u198 :: u199 :: u200 :: u201 :: u202 :: u203 :: u204 :: u205 :: u206 :: u207 :: u208 :: u209 :: u210 :: u211 :: u212 :: u213 :: u214 :: u215 :: u216 :: u217 :: u218 :: u219 :: u220 :: u221 :: u222 :: u223 :: u224 :: u225 :: u226 :: u227 :: u228 :: u229 :: u230 :: u231 :: u232 :: u233 :: u234 :: u235 :: u236 :: u237 :: u238 :: u239 :: u240 :: u241 :: u242 :: u243 :: u244 :: u245 :: u246 :: u247 :: u248 :: u249 :: u250 :: u251 :: u252 :: u253 :: u254 :: u255 :: u256 :: u257 :: u258 :: u259 :: u260 :: u261 :: u262 :: u263 :: u264 :: u265 :: u266 :: u267 :: u268 :: u269 :: u270 :: u271 :: u272 :: u273 :: u274 :: u275 :: u276 :: u277 :: s278 :: s279 :: s280 :: s281 :: s282 :: s283 :: s284 :: s285 :: s286 :: s287 :: s288 :: s289 :: s290 :: s291 :: s292 :: s293 :: s294 :: s295 :: s296 :: s297 :: s298 :: s299 :: s300 :: s301 :: s302 :: s303 :: s304 :: s305 :: s306 :: s307 :: s308 :: s309 :: s310 :: s311 :: s312 :: s313 :: s314 :: s315 :: s316 :: s317 :: s318 :: s319 :: s320 :: s321 :: s322 :: s323 :: s324 :: s325 :: s326 :: s327 :: s328 :: s329 :: s330 :: s331 :: s332 :: s333 :: s334 :: s335 :: s336 :: s337 :: s338 :: s339 :: s340 :: s341 :: s342 :: s343 :: s344 :: s345 :: s346 :: s347 :: s348 :: s349 :: s350 :: s351 :: s352 :: s353 :: s354 :: s355 :: s356 :: s357 :: s358 :: s359 :: s360 :: s361 :: s362 :: s363 :: s364 :: s365 :: s366 :: s367 :: s368 :: s369 :: s370 :: s371 :: s372 :: s373 :: s374 :: s375 :: s376 :: s377 :: s378 :: s379 :: s380 :: s381 :: s382 :: s383 :: s384 :: s385 :: s386 :: s387 :: s388 :: s389 :: s390 :: s391 :: s392 :: s393 :: s394 :: s395 :: s396 :: s397 :: s398 :: s399 :: s400 :: s401 :: s402 :: s403 :: s404 :: s405 :: s406 :: s407 :: s408 :: s409 :: s410 :: s411 :: s412 :: s413 :: s414 :: s415 :: s416 :: s417 :: s418 :: s419 :: s420 :: s421 :: s422 :: s423 :: s424 :: s425 :: s426 :: s427 :: s428 :: s429 :: s430 :: s431 :: s432 :: s433 :: s434 :: s435 :: s436 :: s437 :: s438 :: s439 :: s440 :: s441 :: s442 :: s443 :: s444 :: s445 :: s446 :: s447 :: s448 :: s449 :: s450 :: s451 :: s452 :: s453 :: s454 :: s455 :: s456 :: s457 :: s458 :: s459 :: s460 :: s461 :: s462 :: s463 :: s464 :: s465 :: s466 :: s467 :: s468 :: s469 :: s470 :: s471 :: s472 :: s473 :: s474 :: s475 :: s476 :: s477 :: s478 :: s479 :: s480 :: s481 :: s482 :: s483 :: s484 :: s485 :: s486 :: s487 :: s488 :: s489 :: s490 :: s491 :: s492 :: s493 :: s494 :: s495 :: s496 :: s497 :: s498 :: s499 :: s500 :: []), []⟩ w') :
    Code.wp Try.prog (Code.loop ffL2Body) Q0 ⟨List.toArray (s0 :: s1 :: s2 :: s3 :: s4 :: (.pointer (some ⟨gP, 0, none⟩)) :: s6 :: s7 :: (.slice (some ⟨gD, 0, none⟩) N cD) :: s9 :: (.pointer (some ⟨gO, 0, none⟩)) :: s11 :: s12 :: s13 :: s14 :: (.slice (some ⟨gL, 0, none⟩) N N) :: (.int .i64 0) :: s17 :: s18 :: s19 :: s20 :: s21 :: s22 :: s23 :: s24 :: s25 :: s26 :: s27 :: s28 :: s29 :: s30 :: s31 :: s32 :: s33 :: s34 :: s35 :: s36 :: s37 :: s38 :: s39 :: s40 :: s41 :: s42 :: s43 :: s44 :: s45 :: s46 :: s47 :: s48 :: s49 :: s50 :: s51 :: s52 :: s53 :: s54 :: s55 :: s56 :: s57 :: s58 :: s59 :: s60 :: s61 :: s62 :: s63 :: s64 :: s65 :: s66 :: s67 :: s68 :: s69 :: s70 :: s71 :: s72 :: s73 :: s74 :: s75 :: s76 :: s77 :: s78 :: s79 :: s80 :: s81 :: s82 :: s83 :: s84 :: s85 :: s86 :: s87 :: s88 :: s89 :: s90 :: s91 :: s92 :: s93 :: s94 :: s95 :: s96 :: s97 :: s98 :: s99 :: s100 :: s101 :: s102 :: s103 :: s104 :: s105 :: s106 :: s107 :: s108 :: s109 :: s110 :: s111 :: s112 :: s113 :: s114 :: s115 :: s116 :: s117 :: s118 :: s119 :: s120 :: s121 :: s122 :: s123 :: s124 :: s125 :: s126 :: s127 :: s128 :: s129 :: s130 :: s131 :: s132 :: s133 :: s134 :: s135 :: s136 :: s137 :: s138 :: s139 :: s140 :: s141 :: s142 :: s143 :: s144 :: s145 :: s146 :: s147 :: s148 :: s149 :: s150 :: s151 :: s152 :: s153 :: s154 :: s155 :: s156 :: s157 :: s158 :: s159 :: s160 :: s161 :: s162 :: s163 :: s164 :: s165 :: s166 :: s167 :: s168 :: s169 :: s170 :: s171 :: s172 :: s173 :: s174 :: s175 :: s176 :: s177 :: s178 :: s179 :: s180 :: s181 :: s182 :: s183 :: s184 :: s185 :: s186 :: s187 :: s188 :: s189 :: s190 :: s191 :: s192 :: s193 :: s194 :: s195 :: s196 :: s197 :: s198 :: s199 :: s200 :: s201 :: s202 :: s203 :: s204 :: s205 :: s206 :: s207 :: s208 :: s209 :: s210 :: s211 :: s212 :: s213 :: s214 :: s215 :: s216 :: s217 :: s218 :: s219 :: s220 :: s221 :: s222 :: s223 :: s224 :: s225 :: s226 :: s227 :: s228 :: s229 :: s230 :: s231 :: s232 :: s233 :: s234 :: s235 :: s236 :: s237 :: s238 :: s239 :: s240 :: s241 :: s242 :: s243 :: s244 :: s245 :: s246 :: s247 :: s248 :: s249 :: s250 :: s251 :: s252 :: s253 :: s254 :: s255 :: s256 :: s257 :: s258 :: s259 :: s260 :: s261 :: s262 :: s263 :: s264 :: s265 :: s266 :: s267 :: s268 :: s269 :: s270 :: s271 :: s272 :: s273 :: s274 :: s275 :: s276 :: s277 :: s278 :: s279 :: s280 :: s281 :: s282 :: s283 :: s284 :: s285 :: s286 :: s287 :: s288 :: s289 :: s290 :: s291 :: s292 :: s293 :: s294 :: s295 :: s296 :: s297 :: s298 :: s299 :: s300 :: s301 :: s302 :: s303 :: s304 :: s305 :: s306 :: s307 :: s308 :: s309 :: s310 :: s311 :: s312 :: s313 :: s314 :: s315 :: s316 :: s317 :: s318 :: s319 :: s320 :: s321 :: s322 :: s323 :: s324 :: s325 :: s326 :: s327 :: s328 :: s329 :: s330 :: s331 :: s332 :: s333 :: s334 :: s335 :: s336 :: s337 :: s338 :: s339 :: s340 :: s341 :: s342 :: s343 :: s344 :: s345 :: s346 :: s347 :: s348 :: s349 :: s350 :: s351 :: s352 :: s353 :: s354 :: s355 :: s356 :: s357 :: s358 :: s359 :: s360 :: s361 :: s362 :: s363 :: s364 :: s365 :: s366 :: s367 :: s368 :: s369 :: s370 :: s371 :: s372 :: s373 :: s374 :: s375 :: s376 :: s377 :: s378 :: s379 :: s380 :: s381 :: s382 :: s383 :: s384 :: s385 :: s386 :: s387 :: s388 :: s389 :: s390 :: s391 :: s392 :: s393 :: s394 :: s395 :: s396 :: s397 :: s398 :: s399 :: s400 :: s401 :: s402 :: s403 :: s404 :: s405 :: s406 :: s407 :: s408 :: s409 :: s410 :: s411 :: s412 :: s413 :: s414 :: s415 :: s416 :: s417 :: s418 :: s419 :: s420 :: s421 :: s422 :: s423 :: s424 :: s425 :: s426 :: s427 :: s428 :: s429 :: s430 :: s431 :: s432 :: s433 :: s434 :: s435 :: s436 :: s437 :: s438 :: s439 :: s440 :: s441 :: s442 :: s443 :: s444 :: s445 :: s446 :: s447 :: s448 :: s449 :: s450 :: s451 :: s452 :: s453 :: s454 :: s455 :: s456 :: s457 :: s458 :: s459 :: s460 :: s461 :: s462 :: s463 :: s464 :: s465 :: s466 :: s467 :: s468 :: s469 :: s470 :: s471 :: s472 :: s473 :: s474 :: s475 :: s476 :: s477 :: s478 :: s479 :: s480 :: s481 :: s482 :: s483 :: s484 :: s485 :: s486 :: s487 :: s488 :: s489 :: s490 :: s491 :: s492 :: s493 :: s494 :: s495 :: s496 :: s497 :: s498 :: s499 :: s500 :: []), []⟩ w9 := by
  conv => arg 2; arg 1; whnf
  replace hN := hide hN
  go_loopw [16] (fun x wq => ∃ c : Nat, c ≤ 144 ∧ x = .int .i64 c ∧ Hid (obj wq gL = some (.cells (arr N .i64 (outU a b f c 0)) 2)) ∧ New wB wq) (fun x _ => 144 - (intOf x).toNat)
  case atStart => exact ⟨0, by omega, rfl, oL, hN9⟩
  case round =>
    obtain ⟨c, hc, rfl, hol, hnw⟩ := hrel
    have lO := obj_lt oO.out
    have lP := obj_lt oP.out
    by_cases hlt : c < 144
    · have p3 := (hnw.objs _ lP).trans oP.out
      have q3 := obj_lt p3
      have ql := obj_lt hol.out
      cases hcc : cellN a b c
      · have hcB : Hid (cellB (c : Nat) a b = false) := hcc
        have hsk : Hid (arr N .i64 (outU a b f c 0) = arr N .i64 (outU a b f (c + 1) 0)) := arr_congr fun j hj => outU_skip (f := f) ha.2 hb.2 (c := c) (by rw [hN.out]; exact hj) hcc
        clear hcc
        go_wp2_with (fail)
        refine (a2Is_k a b f _ ⟨by omega, by omega⟩ ⟨by omega, by omega⟩ hcB.out _).mono ?_
        rintro e w1 ⟨rfl, hn1⟩
        have ol := (hn1.objs _ ql).trans hol.out
        clear p3 q3 ql hol
        go_wp2_with (fail)
        go_roundw
        case rel => exact ⟨c + 1, by omega, by go_num, by show _ = _; rw [← hsk.out]; exact ol, hnw.trans hn1⟩
        case measure => simp [intOf]; omega
      · have hcB : Hid (cellB (c : Nat) a b = true) := hcc
        obtain ⟨i, hi⟩ : ∃ i, Hid (ownN a b f c = i + 1) := ⟨ownN a b f c - 1, show _ = _ by have := (own_pos (f := f)).2 hcc; omega⟩
        have hiN : i < fsN a b f 144 := by have := own_le (f := f) ha.2 hb.2 c; have := hi.out; omega
        have hin := (own_row (f := f) ha.2 hb.2 hiN (c := c)).2 hi.out
        have hcd := cellN_e.1 hcc
        have hfc : Hid (fC a b f ((c : Int) % 12) ((c : Int) / 12) = 0) := by
          show codeB _ _ = 0
          rw [hok.out, show isCellB ((c : Int) % 12) ((c : Int) / 12) a b = true by unfold isCellB; rw [Bool.and_eq_true, inB_t, inB_t]; omega]
          rfl
        have hfq : fQ a b f ((c : Int) % 12) ((c : Int) / 12) = fldQ a b f c := by
          unfold fQ
          rw [show ((c : Int) % 12 + 12 * ((c : Int) / 12)).toNat = c by omega]
        have hse : inF (fldQ a b f c) = inF (rowQ a b f i) := fldQ_eq ha.2 hb.2 (fsP_cell (selG_lt (p := fsP a b f) 144 i hiN).2) hin
        obtain ⟨M, hM⟩ : ∃ M, Hid (fsM a b f 144 i = M) := ⟨_, rfl⟩
        have hfn : Hid (fN a b f ((c : Int) % 12) ((c : Int) / 12) = M) := by
          show _ = _
          rw [← hM.out]
          unfold fN
          rw [if_pos hfc.out, hfq, hse]
          rfl
        have hfg : Hid (∀ j, fG a b f ((c : Int) % 12) ((c : Int) / 12) j = fsF a b f 144 i j) := by
          intro j
          unfold fG
          rw [hfq, hse]
          rfl
        have hM144 : M ≤ 144 := by rw [← hM.out]; exact fsM_le a b f 144 i
        have hN144 : N ≤ 144 := by rw [← hN.out]; exact fsN_le a b f 144
        have hnx : Hid (arr N .i64 (outU a b f c 4) = arr N .i64 (outU a b f (c + 1) 0)) := arr_congr fun j hj => outU_next (f := f) ha.2 hb.2 (c := c) (by rw [hN.out]; exact hj)
        rw [hN.out] at hiN
        have hoc : Hid (((ownN a b f c : Nat) : Int) = (i : Int) + 1) := by show _ = _; have := hi.out; omega
        obtain ⟨g1, cur1, hg1, o1, l1, e1⟩ := hrr.out.slot hiN
        cases hg1
        obtain ⟨x1, y1, z1, hs1⟩ := (hrr.out.row hiN).reads
        rw [z1, hM.out] at e1
        rw [hM.out] at hs1
        have t1 : NewSl wB x1 M (fsF a b f 144 i) := hs1
        have hcc' := hide hcc
        clear hcc hfq hse hin hcd z1 hs1 hM
        go_wp2_with (fail)
        refine (a2Is_k a b f _ ⟨by omega, by omega⟩ ⟨by omega, by omega⟩ hcB.out _).mono ?_
        rintro e w1 ⟨rfl, hn1⟩
        have ol := (hn1.objs _ ql).trans hol.out
        have hnw1 := hnw.trans hn1
        have p4 := (hnw1.objs _ lP).trans oP.out
        have q4 := obj_lt p4
        have ql1 := obj_lt ol
        clear p3 q3 ql hol hn1
        go_wp2_with (fail)
        refine (fieldAt_impl a b f _ _ ⟨by omega, by omega⟩ ⟨by omega, by omega⟩ hf _).mono ?_
        rintro e w2 ⟨v, rfl, hrow, hn2⟩
        rw [hfn.out] at hrow
        replace hrow := hrow.congr fun j _ => hfg.out j
        rw [hfc.out]
        obtain ⟨x2, y2, rfl, hs2⟩ := hrow.reads
        have t2 : NewSl w2 x2 M (fsF a b f 144 i) := hs2
        have ol2 := (hn2.objs _ ql1).trans ol
        have hnw2 := hnw1.trans hn2
        have p5 := (hnw2.objs _ lO).trans oO.out
        have p6 := (hnw2.objs _ (obj_lt o1)).trans o1
        have q5 := obj_lt p5
        have q6 := obj_lt p6
        have ql2 := obj_lt ol2
        have hc145 : (c : Int) < 144 := by omega
        have hoc' := hoc.out
        have hiN' : (i : Int) < N := by omega
        clear p4 q4 ql1 ol hrow hs2 hn2 hfn hfg hfc
        go_wp2_with (fail)
        refine (a2Same_refl _ _ M _ _ _ (by omega) _ t2 (t1.at hnw2)).mono ?_
        rintro e w3 ⟨rfl, hn3⟩
        have ol3 := (hn3.objs _ ql2).trans ol2
        have hnw3 := hnw2.trans hn3
        have ql3 := obj_lt ol3
        clear p5 p6 q5 q6 ol2 ql2 t1 t2 o1 hn3 hoc'
        go_wp2_with (fail)
        rw [← bs_arr c]
        generalize hw4 : w3.alloc (Obj.cells (arr 4 .i64 (bsI c)) 2) = w4
        obtain ⟨gB, hgB⟩ : ∃ gB, Hid (w3.heap.size = gB) := ⟨_, rfl⟩
        have oB : obj w4 gB = some (.cells (arr 4 .i64 (bsI c)) 2) := by rw [← hw4, ← hgB.out]; exact obj_alloc_at _ _ _ rfl
        have ol4 : obj w4 gL = some (.cells (arr N .i64 (outU a b f c 0)) 2) := by rw [← hw4]; exact (obj_alloc_past _ _ _ ql3).trans ol3
        have hnw4 : New wB w4 := by rw [← hw4]; exact hnw3.alloc _
        have lB : wB.heap.size ≤ gB := by rw [← hgB.out]; exact hnw3.le
        rw [hgB.out] at ql3
        rw [hgB.out]
        clear hw4 hgB ol3 hnw1 hnw2 hnw3 l1 e1 hcB
        go_loopw [20] (fun x wq => ∃ k : Nat, k ≤ 4 ∧ x = .int .i64 k ∧ Hid (obj wq gL = some (.cells (arr N .i64 (outU a b f c k)) 2)) ∧ Hid (obj wq gB = some (.cells (arr 4 .i64 (bsI c)) 2)) ∧ New wB wq) (fun x _ => 4 - (intOf x).toNat)
        case atStart => exact ⟨0, by omega, rfl, ol4, oB, hnw4⟩
        case round =>
          obtain ⟨k, hk, rfl, hol, hob, hnq⟩ := hrel
          clear ol4 oB hnw4
          by_cases hlk : k < 4
          · have hbb := bs_b c k hlt
            have hbs := hide (bs_in (a := a) (b := b) ha hb hlk hcc'.out)
            have hub := outU_b a b f c k i (by omega) (by omega)
            have hi4 : i < N := by omega
            have hk4 : (k : Int) < 4 := by omega
            have ob := hob.out
            have qb := obj_lt ob
            have p3 := (hnq.objs _ lP).trans oP.out
            have q3 := obj_lt p3
            have ql4 := obj_lt hol.out
            cases hB : cellB (bsI c k) a b
            · have hput : Hid (arr N .i64 (upd (outU a b f c k) i (outU a b f c k i + 1)) = arr N .i64 (outU a b f c (k + 1))) := arr_congr fun j _ => outU_put hi.out fun h => by
                have := (hbs.out.2 h.1).1
                rw [hB] at this
                cases this
              obtain ⟨d, hd⟩ : ∃ d, Hid (bsI c k = d) := ⟨_, rfl⟩
              rw [hd.out] at hbb hB
              have hd' := hd.out
              replace hB := hide hB
              clear hbs hd
              have hoc' := hoc.out

              go_wp2_with (fail)
              refine (a2Is_k a b f _ ⟨by omega, by omega⟩ ⟨by omega, by omega⟩ hB.out _).mono ?_
              rintro e1 w1 ⟨rfl, hn1⟩
              have ol5 := (hn1.objs _ ql4).trans hol.out
              have ob5 := (hn1.objs _ qb).trans ob
              have hnq5 := hnq.trans hn1
              clear p3 q3 ql4 hol hob ob qb hn1
              have p5 := (hnq5.objs _ lO).trans oO.out
              have q5 := obj_lt p5
              have ql5 := obj_lt ol5
              have qb5 := obj_lt ob5
              go_wp2_with (fail)
              go_quiet (fail)
              have ol6 : obj (w1.drewN nq) gL = _ := (obj_drewN _ _ _).trans ol5
              have ob6 : obj (w1.drewN nq) gB = _ := (obj_drewN _ _ _).trans ob5
              have hnq6 : New wB (w1.drewN nq) := hnq5.drewN nq
              clear ol5 ob5 hnq5 p5 q5 ql5 qb5
              generalize w1.drewN nq = w6 at ol6 ob6 hnq6 ⊢
              have p6 := (hnq6.objs _ lO).trans oO.out
              have q6 := obj_lt p6
              have ql6 := obj_lt ol6
              have qb6 := obj_lt ob6

              go_wp2_with (fail)
              generalize hw7 : w6.setCell ⟨gL, i, none⟩ (.int .i64 (outU a b f c k i + 1)) = w7
              have ol7 : obj w7 gL = some (.cells (arr N .i64 (outU a b f c (k + 1))) 2) := by rw [← hw7, obj_set_arr ol6 _ i _ rfl, hput.out]
              have ob7 : obj w7 gB = some (.cells (arr 4 .i64 (bsI c)) 2) := by rw [← hw7, obj_setCell_other _ _ _ _ _ (by omega)]; exact ob6
              have hnq7 : New wB w7 := by rw [← hw7]; exact hnq6.setCell (by omega) _
              clear hw7 ol6 ob6 hnq6 p6 q6 ql6 qb6
              have ql7 := obj_lt ol7
              have qb7 := obj_lt ob7

              go_quiet (fail)
              go_wp2_with (fail)
              go_roundw
              case rel => exact ⟨k + 1, by omega, by go_num, by show _ = _; exact (obj_drewN _ _ _).trans ol7, by show _ = _; exact (obj_drewN _ _ _).trans ob7, hnq7.drewN _⟩
              case measure => simp [intOf]; omega
            · obtain ⟨e, he⟩ : ∃ e : Nat, Hid (bsI c k = (e : Nat)) := ⟨(bsI c k).toNat, show _ = _ by have := (cellB_n.1 hB).1; omega⟩
              have hec : cellN a b e = true := by have := (cellB_n.1 hB).2; rw [he.out] at this; exact this
              have he144 : e < 144 := (cellN_e.1 hec).1
              have hq12 : Int.tdiv (bsI c k) 12 = (e : Int) / 12 := by rw [he.out]; exact Int.tdiv_eq_ediv_of_nonneg (by omega)
              rw [he.out] at hbb
              have hbs2 : (k = 0 ∨ k = 3 ∨ (e : Int) / 12 = (c : Int) / 12) ↔ bsC a b c k := by
                have h := hbs.out
                rw [hq12, show ((c / 12 : Nat) : Int) = (c : Int) / 12 by omega] at h
                exact ⟨fun h2 => h.1 ⟨hB, h2⟩, fun h2 => (h.2 h2).2⟩
              replace hB := hB
              rw [he.out] at hB
              replace hB := hide hB
              have hd' := he.out
              clear hq12 hbs
              have he145 : (e : Int) < 144 := by omega
              have hk00 : Hid (((k : Int) == 0) = decide (k = 0)) := by
                show _ = _
                rw [Bool.eq_iff_iff, beq_iff_eq, decide_eq_true_iff]
                omega
              have hk33 : Hid (((k : Int) == 3) = decide (k = 3)) := by
                show _ = _
                rw [Bool.eq_iff_iff, beq_iff_eq, decide_eq_true_iff]
                omega
              have hqq : Hid (((e : Int) / 12 == (c : Int) / 12) = decide ((e : Int) / 12 = (c : Int) / 12)) := by
                show _ = _
                rw [Bool.eq_iff_iff, beq_iff_eq, decide_eq_true_iff]
              by_cases hbc : bsC a b c k
              · have hbn : bsN c k = e := by have := bs_i hlk hbc; have := he.out; omega
                by_cases how : ownN a b f e = i + 1
                · have hsm : Hid (arr N .i64 (outU a b f c k) = arr N .i64 (outU a b f c (k + 1))) := arr_congr fun j _ => (outU_same hi.out ⟨hbc, by rw [hbn]; exact decide_eq_true ((own_row (f := f) ha.2 hb.2 (by rw [hN.out]; exact hiN)).2 how)⟩).symm
                  have hoe : ((ownN a b f e : Nat) : Int) = (i : Int) + 1 := by omega
                  have hoc' := hoc.out
                  have hsd : (((i : Int) + 1) != ((i : Int) + 1)) = false := by simp
                  clear how hbn hec
                  by_cases hk0 : k = 0
                  · have kk := hk00.out
                    rw [decide_eq_true hk0] at kk
                    replace hk0 := hide hk0
                    clear hbs2 hbc hk00 hk33 hqq he
                    go_wp2_with (fail)
                    refine (a2Is_k a b f _ ⟨by omega, by omega⟩ ⟨by omega, by omega⟩ hB.out _).mono ?_
                    rintro e1 w1 ⟨rfl, hn1⟩
                    have ol5 := (hn1.objs _ ql4).trans hol.out
                    have ob5 := (hn1.objs _ qb).trans ob
                    have hnq5 := hnq.trans hn1
                    clear p3 q3 ql4 hol hob ob qb hn1
                    have p5 := (hnq5.objs _ lO).trans oO.out
                    have q5 := obj_lt p5
                    have ql5 := obj_lt ol5
                    have qb5 := obj_lt ob5
                    go_wp2_with (fail)
                    go_quiet (fail)
                    have ol6 : obj (w1.drewN nq) gL = _ := (obj_drewN _ _ _).trans ol5
                    have ob6 : obj (w1.drewN nq) gB = _ := (obj_drewN _ _ _).trans ob5
                    have hnq6 : New wB (w1.drewN nq) := hnq5.drewN nq
                    clear ol5 ob5 hnq5 p5 q5 ql5 qb5
                    generalize w1.drewN nq = w6 at ol6 ob6 hnq6 ⊢
                    have p6 := (hnq6.objs _ lO).trans oO.out
                    have q6 := obj_lt p6
                    have ql6 := obj_lt ol6
                    have qb6 := obj_lt ob6

                    have ol7 := ol6.trans (by rw [hsm.out])

                    have ob7 := ob6
                    have hnq7 := hnq6
                    go_wp2_with (fail)

                    go_quiet (fail)
                    go_wp2_with (fail)
                    go_roundw
                    case rel => exact ⟨k + 1, by omega, by go_num, by show _ = _; exact (obj_drewN _ _ _).trans ol7, by show _ = _; exact (obj_drewN _ _ _).trans ob7, hnq7.drewN _⟩
                    case measure => simp [intOf]; omega
                  · by_cases hk3 : k = 3
                    · have kk := hk00.out
                      rw [decide_eq_false hk0] at kk
                      have kk3 := hk33.out
                      rw [decide_eq_true hk3] at kk3
                      replace hk3 := hide hk3
                      clear hbs2 hbc hk00 hk33 hqq he
                      go_wp2_with (fail)
                      refine (a2Is_k a b f _ ⟨by omega, by omega⟩ ⟨by omega, by omega⟩ hB.out _).mono ?_
                      rintro e1 w1 ⟨rfl, hn1⟩
                      have ol5 := (hn1.objs _ ql4).trans hol.out
                      have ob5 := (hn1.objs _ qb).trans ob
                      have hnq5 := hnq.trans hn1
                      clear p3 q3 ql4 hol hob ob qb hn1
                      have p5 := (hnq5.objs _ lO).trans oO.out
                      have q5 := obj_lt p5
                      have ql5 := obj_lt ol5
                      have qb5 := obj_lt ob5
                      go_wp2_with (fail)
                      go_quiet (fail)
                      have ol6 : obj (w1.drewN nq) gL = _ := (obj_drewN _ _ _).trans ol5
                      have ob6 : obj (w1.drewN nq) gB = _ := (obj_drewN _ _ _).trans ob5
                      have hnq6 : New wB (w1.drewN nq) := hnq5.drewN nq
                      clear ol5 ob5 hnq5 p5 q5 ql5 qb5
                      generalize w1.drewN nq = w6 at ol6 ob6 hnq6 ⊢
                      have p6 := (hnq6.objs _ lO).trans oO.out
                      have q6 := obj_lt p6
                      have ql6 := obj_lt ol6
                      have qb6 := obj_lt ob6

                      have ol7 := ol6.trans (by rw [hsm.out])

                      have ob7 := ob6
                      have hnq7 := hnq6
                      go_wp2_with (fail)

                      go_quiet (fail)
                      go_wp2_with (fail)
                      go_roundw
                      case rel => exact ⟨k + 1, by omega, by go_num, by show _ = _; exact (obj_drewN _ _ _).trans ol7, by show _ = _; exact (obj_drewN _ _ _).trans ob7, hnq7.drewN _⟩
                      case measure => simp [intOf]; omega
                    · have kk := hk00.out
                      rw [decide_eq_false hk0] at kk
                      have kk3 := hk33.out
                      rw [decide_eq_false hk3] at kk3
                      have qq := hqq.out
                      rw [decide_eq_true (by have := hbs2.2 hbc; omega)] at qq
                      clear hbs2 hbc hk00 hk33 hqq he
                      go_wp2_with (fail)
                      refine (a2Is_k a b f _ ⟨by omega, by omega⟩ ⟨by omega, by omega⟩ hB.out _).mono ?_
                      rintro e1 w1 ⟨rfl, hn1⟩
                      have ol5 := (hn1.objs _ ql4).trans hol.out
                      have ob5 := (hn1.objs _ qb).trans ob
                      have hnq5 := hnq.trans hn1
                      clear p3 q3 ql4 hol hob ob qb hn1
                      have p5 := (hnq5.objs _ lO).trans oO.out
                      have q5 := obj_lt p5
                      have ql5 := obj_lt ol5
                      have qb5 := obj_lt ob5
                      go_wp2_with (fail)
                      go_quiet (fail)
                      have ol6 : obj (w1.drewN nq) gL = _ := (obj_drewN _ _ _).trans ol5
                      have ob6 : obj (w1.drewN nq) gB = _ := (obj_drewN _ _ _).trans ob5
                      have hnq6 : New wB (w1.drewN nq) := hnq5.drewN nq
                      clear ol5 ob5 hnq5 p5 q5 ql5 qb5
                      generalize w1.drewN nq = w6 at ol6 ob6 hnq6 ⊢
                      have p6 := (hnq6.objs _ lO).trans oO.out
                      have q6 := obj_lt p6
                      have ql6 := obj_lt ol6
                      have qb6 := obj_lt ob6

                      have ol7 := ol6.trans (by rw [hsm.out])

                      have ob7 := ob6
                      have hnq7 := hnq6
                      go_wp2_with (fail)

                      go_quiet (fail)
                      go_wp2_with (fail)
                      go_roundw
                      case rel => exact ⟨k + 1, by omega, by go_num, by show _ = _; exact (obj_drewN _ _ _).trans ol7, by show _ = _; exact (obj_drewN _ _ _).trans ob7, hnq7.drewN _⟩
                      case measure => simp [intOf]; omega
                · have hput : Hid (arr N .i64 (upd (outU a b f c k) i (outU a b f c k i + 1)) = arr N .i64 (outU a b f c (k + 1))) := arr_congr fun j _ => outU_put hi.out fun h => by
                    have h2 := h.2
                    rw [hbn] at h2
                    exact how ((own_row (f := f) ha.2 hb.2 (by rw [hN.out]; exact hiN)).1 (of_decide_eq_true h2))
                  have hff : (f e == f c) = false := by
                    rw [beq_eq_false_iff_ne]
                    intro h
                    have := same_own (a := a) (b := b) ha.2 hb.2 hlk hcc'.out hbc (by rw [hbn]; exact h)
                    rw [hbn, hi.out] at this
                    exact how this
                  have hoc' := hoc.out
                  obtain ⟨z, hz⟩ : ∃ z : Nat, Hid (ownN a b f e = z) := ⟨_, rfl⟩
                  have hoe : ownN a b f e = z := hz.out
                  rw [hoe] at how
                  have hsd : ((z : Int) != ((i : Int) + 1)) = true := by rw [bne_iff_ne]; omega
                  clear how hbn hec
                  by_cases hk0 : k = 0
                  · have kk := hk00.out
                    rw [decide_eq_true hk0] at kk
                    replace hk0 := hide hk0
                    clear hbs2 hbc hk00 hk33 hqq he
                    go_wp2_with (fail)
                    refine (a2Is_k a b f _ ⟨by omega, by omega⟩ ⟨by omega, by omega⟩ hB.out _).mono ?_
                    rintro e1 w1 ⟨rfl, hn1⟩
                    have ol5 := (hn1.objs _ ql4).trans hol.out
                    have ob5 := (hn1.objs _ qb).trans ob
                    have hnq5 := hnq.trans hn1
                    clear p3 q3 ql4 hol hob ob qb hn1
                    have p5 := (hnq5.objs _ lO).trans oO.out
                    have q5 := obj_lt p5
                    have ql5 := obj_lt ol5
                    have qb5 := obj_lt ob5
                    go_wp2_with (fail)
                    go_quiet (fail)
                    have ol6 : obj (w1.drewN nq) gL = _ := (obj_drewN _ _ _).trans ol5
                    have ob6 : obj (w1.drewN nq) gB = _ := (obj_drewN _ _ _).trans ob5
                    have hnq6 : New wB (w1.drewN nq) := hnq5.drewN nq
                    clear ol5 ob5 hnq5 p5 q5 ql5 qb5
                    generalize w1.drewN nq = w6 at ol6 ob6 hnq6 ⊢
                    have p6 := (hnq6.objs _ lO).trans oO.out
                    have q6 := obj_lt p6
                    have ql6 := obj_lt ol6
                    have qb6 := obj_lt ob6

                    go_wp2_with (fail)
                    generalize hw7 : w6.setCell ⟨gL, i, none⟩ (.int .i64 (outU a b f c k i + 1)) = w7
                    have ol7 : obj w7 gL = some (.cells (arr N .i64 (outU a b f c (k + 1))) 2) := by rw [← hw7, obj_set_arr ol6 _ i _ rfl, hput.out]
                    have ob7 : obj w7 gB = some (.cells (arr 4 .i64 (bsI c)) 2) := by rw [← hw7, obj_setCell_other _ _ _ _ _ (by omega)]; exact ob6
                    have hnq7 : New wB w7 := by rw [← hw7]; exact hnq6.setCell (by omega) _
                    clear hw7 ol6 ob6 hnq6 p6 q6 ql6 qb6
                    have ql7 := obj_lt ol7
                    have qb7 := obj_lt ob7

                    have p7 := (hnq7.objs _ lO).trans oO.out
                    have q7 := obj_lt p7
                    have p8 := (hnq7.objs _ lP).trans oP.out
                    have q8 := obj_lt p8

                    go_quiet (fail)
                    go_wp2_with (fail)
                    go_roundw
                    case rel => exact ⟨k + 1, by omega, by go_num, by show _ = _; exact (obj_drewN _ _ _).trans ol7, by show _ = _; exact (obj_drewN _ _ _).trans ob7, hnq7.drewN _⟩
                    case measure => simp [intOf]; omega
                  · by_cases hk3 : k = 3
                    · have kk := hk00.out
                      rw [decide_eq_false hk0] at kk
                      have kk3 := hk33.out
                      rw [decide_eq_true hk3] at kk3
                      replace hk3 := hide hk3
                      clear hbs2 hbc hk00 hk33 hqq he
                      go_wp2_with (fail)
                      refine (a2Is_k a b f _ ⟨by omega, by omega⟩ ⟨by omega, by omega⟩ hB.out _).mono ?_
                      rintro e1 w1 ⟨rfl, hn1⟩
                      have ol5 := (hn1.objs _ ql4).trans hol.out
                      have ob5 := (hn1.objs _ qb).trans ob
                      have hnq5 := hnq.trans hn1
                      clear p3 q3 ql4 hol hob ob qb hn1
                      have p5 := (hnq5.objs _ lO).trans oO.out
                      have q5 := obj_lt p5
                      have ql5 := obj_lt ol5
                      have qb5 := obj_lt ob5
                      go_wp2_with (fail)
                      go_quiet (fail)
                      have ol6 : obj (w1.drewN nq) gL = _ := (obj_drewN _ _ _).trans ol5
                      have ob6 : obj (w1.drewN nq) gB = _ := (obj_drewN _ _ _).trans ob5
                      have hnq6 : New wB (w1.drewN nq) := hnq5.drewN nq
                      clear ol5 ob5 hnq5 p5 q5 ql5 qb5
                      generalize w1.drewN nq = w6 at ol6 ob6 hnq6 ⊢
                      have p6 := (hnq6.objs _ lO).trans oO.out
                      have q6 := obj_lt p6
                      have ql6 := obj_lt ol6
                      have qb6 := obj_lt ob6

                      go_wp2_with (fail)
                      generalize hw7 : w6.setCell ⟨gL, i, none⟩ (.int .i64 (outU a b f c k i + 1)) = w7
                      have ol7 : obj w7 gL = some (.cells (arr N .i64 (outU a b f c (k + 1))) 2) := by rw [← hw7, obj_set_arr ol6 _ i _ rfl, hput.out]
                      have ob7 : obj w7 gB = some (.cells (arr 4 .i64 (bsI c)) 2) := by rw [← hw7, obj_setCell_other _ _ _ _ _ (by omega)]; exact ob6
                      have hnq7 : New wB w7 := by rw [← hw7]; exact hnq6.setCell (by omega) _
                      clear hw7 ol6 ob6 hnq6 p6 q6 ql6 qb6
                      have ql7 := obj_lt ol7
                      have qb7 := obj_lt ob7

                      have p7 := (hnq7.objs _ lO).trans oO.out
                      have q7 := obj_lt p7
                      have p8 := (hnq7.objs _ lP).trans oP.out
                      have q8 := obj_lt p8

                      go_quiet (fail)
                      go_wp2_with (fail)
                      go_roundw
                      case rel => exact ⟨k + 1, by omega, by go_num, by show _ = _; exact (obj_drewN _ _ _).trans ol7, by show _ = _; exact (obj_drewN _ _ _).trans ob7, hnq7.drewN _⟩
                      case measure => simp [intOf]; omega
                    · have kk := hk00.out
                      rw [decide_eq_false hk0] at kk
                      have kk3 := hk33.out
                      rw [decide_eq_false hk3] at kk3
                      have qq := hqq.out
                      rw [decide_eq_true (by have := hbs2.2 hbc; omega)] at qq
                      clear hbs2 hbc hk00 hk33 hqq he
                      go_wp2_with (fail)
                      refine (a2Is_k a b f _ ⟨by omega, by omega⟩ ⟨by omega, by omega⟩ hB.out _).mono ?_
                      rintro e1 w1 ⟨rfl, hn1⟩
                      have ol5 := (hn1.objs _ ql4).trans hol.out
                      have ob5 := (hn1.objs _ qb).trans ob
                      have hnq5 := hnq.trans hn1
                      clear p3 q3 ql4 hol hob ob qb hn1
                      have p5 := (hnq5.objs _ lO).trans oO.out
                      have q5 := obj_lt p5
                      have ql5 := obj_lt ol5
                      have qb5 := obj_lt ob5
                      go_wp2_with (fail)
                      go_quiet (fail)
                      have ol6 : obj (w1.drewN nq) gL = _ := (obj_drewN _ _ _).trans ol5
                      have ob6 : obj (w1.drewN nq) gB = _ := (obj_drewN _ _ _).trans ob5
                      have hnq6 : New wB (w1.drewN nq) := hnq5.drewN nq
                      clear ol5 ob5 hnq5 p5 q5 ql5 qb5
                      generalize w1.drewN nq = w6 at ol6 ob6 hnq6 ⊢
                      have p6 := (hnq6.objs _ lO).trans oO.out
                      have q6 := obj_lt p6
                      have ql6 := obj_lt ol6
                      have qb6 := obj_lt ob6

                      go_wp2_with (fail)
                      generalize hw7 : w6.setCell ⟨gL, i, none⟩ (.int .i64 (outU a b f c k i + 1)) = w7
                      have ol7 : obj w7 gL = some (.cells (arr N .i64 (outU a b f c (k + 1))) 2) := by rw [← hw7, obj_set_arr ol6 _ i _ rfl, hput.out]
                      have ob7 : obj w7 gB = some (.cells (arr 4 .i64 (bsI c)) 2) := by rw [← hw7, obj_setCell_other _ _ _ _ _ (by omega)]; exact ob6
                      have hnq7 : New wB w7 := by rw [← hw7]; exact hnq6.setCell (by omega) _
                      clear hw7 ol6 ob6 hnq6 p6 q6 ql6 qb6
                      have ql7 := obj_lt ol7
                      have qb7 := obj_lt ob7

                      have p7 := (hnq7.objs _ lO).trans oO.out
                      have q7 := obj_lt p7
                      have p8 := (hnq7.objs _ lP).trans oP.out
                      have q8 := obj_lt p8

                      go_quiet (fail)
                      go_wp2_with (fail)
                      go_roundw
                      case rel => exact ⟨k + 1, by omega, by go_num, by show _ = _; exact (obj_drewN _ _ _).trans ol7, by show _ = _; exact (obj_drewN _ _ _).trans ob7, hnq7.drewN _⟩
                      case measure => simp [intOf]; omega
              · have hput : Hid (arr N .i64 (upd (outU a b f c k) i (outU a b f c k i + 1)) = arr N .i64 (outU a b f c (k + 1))) := arr_congr fun j _ => outU_put hi.out fun h => hbc h.1
                have kk := hk00.out
                rw [decide_eq_false (fun h => hbc (hbs2.1 (Or.inl h)))] at kk
                have kk3 := hk33.out
                rw [decide_eq_false (fun h => hbc (hbs2.1 (Or.inr (Or.inl h))))] at kk3
                have qq := hqq.out
                rw [decide_eq_false (fun h => hbc (hbs2.1 (Or.inr (Or.inr h))))] at qq
                clear hbs2 hbc hk00 hk33 hqq he hec
                have hoc' := hoc.out

                go_wp2_with (fail)
                refine (a2Is_k a b f _ ⟨by omega, by omega⟩ ⟨by omega, by omega⟩ hB.out _).mono ?_
                rintro e1 w1 ⟨rfl, hn1⟩
                have ol5 := (hn1.objs _ ql4).trans hol.out
                have ob5 := (hn1.objs _ qb).trans ob
                have hnq5 := hnq.trans hn1
                clear p3 q3 ql4 hol hob ob qb hn1
                have p5 := (hnq5.objs _ lO).trans oO.out
                have q5 := obj_lt p5
                have ql5 := obj_lt ol5
                have qb5 := obj_lt ob5
                go_wp2_with (fail)
                go_quiet (fail)
                have ol6 : obj (w1.drewN nq) gL = _ := (obj_drewN _ _ _).trans ol5
                have ob6 : obj (w1.drewN nq) gB = _ := (obj_drewN _ _ _).trans ob5
                have hnq6 : New wB (w1.drewN nq) := hnq5.drewN nq
                clear ol5 ob5 hnq5 p5 q5 ql5 qb5
                generalize w1.drewN nq = w6 at ol6 ob6 hnq6 ⊢
                have p6 := (hnq6.objs _ lO).trans oO.out
                have q6 := obj_lt p6
                have ql6 := obj_lt ol6
                have qb6 := obj_lt ob6

                go_wp2_with (fail)
                generalize hw7 : w6.setCell ⟨gL, i, none⟩ (.int .i64 (outU a b f c k i + 1)) = w7
                have ol7 : obj w7 gL = some (.cells (arr N .i64 (outU a b f c (k + 1))) 2) := by rw [← hw7, obj_set_arr ol6 _ i _ rfl, hput.out]
                have ob7 : obj w7 gB = some (.cells (arr 4 .i64 (bsI c)) 2) := by rw [← hw7, obj_setCell_other _ _ _ _ _ (by omega)]; exact ob6
                have hnq7 : New wB w7 := by rw [← hw7]; exact hnq6.setCell (by omega) _
                clear hw7 ol6 ob6 hnq6 p6 q6 ql6 qb6
                have ql7 := obj_lt ol7
                have qb7 := obj_lt ob7

                go_quiet (fail)
                go_wp2_with (fail)
                go_roundw
                case rel => exact ⟨k + 1, by omega, by go_num, by show _ = _; exact (obj_drewN _ _ _).trans ol7, by show _ = _; exact (obj_drewN _ _ _).trans ob7, hnq7.drewN _⟩
                case measure => simp [intOf]; omega
          · have hk4 : k = 4 := by omega
            have ol5 := hol.out
            rw [hk4] at ol5
            clear hol hob
            go_wp2_with (fail)
            go_roundw
            case rel => exact ⟨c + 1, by omega, by go_num, by show _ = _; rw [← hnx.out]; exact ol5, hnq⟩
            case measure => simp [intOf]; omega
    · have hc4 : c = 144 := by omega
      have ol := hol.out
      rw [hc4] at ol
      clear hol
      go_wp2_with (fail)
      exact hexit _ _ _ _ _ _ _ _ _ _ _ _ _ _ _ _ _ _ _ _ _ _ _ _ _ _ _ _ _ _ _ _ _ _ _ _ _ _ _ _ _ _ _ _ _ _ _ _ _ _ _ _ _ _ _ _ _ _ _ _ _ _ _ _ _ _ _ _ _ _ _ _ _ _ _ _ _ _ _ _ _ _ _ _ _ _ _ _ _ _ _ _ _ _ _ _ _ _ _ _ _ _ _ _ _ _ _ _ _ _ _ _ _ _ _ _ ol hnw
end Go.Proofs.Ytmmckoemkpfgbaa
