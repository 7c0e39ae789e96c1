/- A loop of laws.FnNearest, cut out: a theorem of its own over a frame of letters; no condition. -/
import Derived.Test.YtphjhegaplochaaGreatDoorU1
import Derived.Test.YtphjhegaplochaaGreatDoorU17
import Derived.Test.YtphjhegaplochaaGreatDoorU2
import Derived.Test.YtphjhegaplochaaGreatDoorU6
import Derived.Test.YtphjhegaplochaaGreatDoorU4
import Derived.Test.YtphjhegaplochaaGreatDoorU11
import Derived.Test.YtphjhegaplochaaGreatDoorU13
import Derived.Test.YtphjhegaplochaaGreatDoorU7
import Derived.Test.YtphjhegaplochaaGreatDoorU16
set_option linter.unusedVariables false
namespace Go.Proofs.YtphjhegaplochaaGreatDoor
open Go.BigFrame
open Go.RowKit Go.Arr
noncomputable def nnL4Body : Code := loopIn (Tryz.f3.body.getD .skip) 3
set_option maxHeartbeats 4000000 in
set_option maxRecDepth 1000000 in
theorem nnL4 (n gp cp gS cS c6 : Nat) (p O S : Nat → Int) (x6 : Option Addr) (wB w9 : World) (hn0 : 0 < n) (hn15 : n ≤ 15) (hSb : Hid (∀ i, 0 ≤ S i ∧ S i ≤ 255)) (hO : Hid (∀ i, i < n → 1 ≤ O i ∧ O i ≤ n))
    (hat : Hid (∀ i, S (i * 3) = p (((O i).toNat - 1) * 3) ∧ S (i * 3 + 1) = p (((O i).toNat - 1) * 3 + 1) ∧ S (i * 3 + 2) = p (((O i).toNat - 1) * 3 + 2))) (hrise : Hid (∀ i, i + 1 < n → bright (S (i * 3)) (S (i * 3 + 1)) (S (i * 3 + 2)) ≤ bright (S ((i + 1) * 3)) (S ((i + 1) * 3 + 1)) (S ((i + 1) * 3 + 2))))
    (hsp : Hid (Sl wB (.slice (some ⟨gp, 0, none⟩) n cp) n 3 .u8 p)) (hsS : Hid (Sl wB (.slice (some ⟨gS, 0, none⟩) n cS) n 3 .u8 S)) (h6 : NewSl wB x6 n O) (hN9 : New wB w9)
    (Q0 : Exit → Act → World → Prop) (s0 s1 s2 s3 s4 s5 s7 s8 s9 s10 s11 s12 s13 s14 s15 s16 s17 s18 s19 s20 s21 s22 s23 s24 s25 s26 s27 s28 s29 s30 s31 s32 s33 s34 s35 s36 s37 s38 s39 s40 s41 s42 s43 s44 s45 s46 s47 s48 s49 s50 s51 s52 s53 s54 s57 s59 s60 s61 s62 s63 s64 s65 s66 s67 s68 s69 s70 s71 s72 s73 s74 s75 s76 s77 s78 s79 s80 s81 s82 s83 s84 s85 s86 s87 s88 s89 s90 s91 s92 s93 s94 s95 s96 s97 s98 s99 s100 s101 s102 s103 s104 s105 s106 s107 s108 s109 s110 s111 s112 s113 s114 s115 s116 s117 s118 s119 s120 s121 s122 s123 s124 s125 s126 s127 s128 s129 s130 s131 s132 s133 s134 s135 s136 s137 s138 s139 s140 s141 s142 s143 s144 s145 s146 s147 s148 s149 s150 s151 s152 s153 s154 s155 s156 s157 s158 s159 s160 s161 s162 s163 s164 s165 s166 s167 s168 s169 s170 s171 s172 s173 s174 s175 s176 s177 s178 s179 s180 s181 s182 s183 s184 s185 s186 s187 s188 s189 s190 s191 s192 s193 s194 s195 s196 s197 s198 s199 s200 s201 s202 s203 s204 s205 s206 s207 s208 s209 s210 s211 s212 s213 s214 s215 s216 s217 s218 s219 s220 s221 s222 s223 s224 s225 s226 s227 s228 s229 s230 s231 s232 s233 s234 s235 s236 s237 s238 s239 s240 s241 s242 s243 s244 s245 s246 s247 s248 s249 s250 s251 s252 s253 s254 s255 s256 s257 s258 s259 s260 s261 s262 s263 s264 s265 s266 s267 s268 s269 s270 s271 s272 s273 s274 s275 s276 s277 s278 s279 s280 s281 s282 s283 s284 s285 s286 s287 s288 s289 s290 s291 s292 s293 s294 s295 s296 s297 s298 s299 s300 s301 s302 s303 s304 s305 s306 s307 s308 s309 s310 s311 s312 s313 s314 s315 s316 s317 s318 s319 s320 s321 s322 s323 s324 s325 s326 s327 s328 s329 s330 s331 s332 s333 s334 s335 s336 s337 s338 s339 s340 s341 s342 s343 s344 s345 s346 s347 s348 s349 s350 s351 s352 s353 s354 s355 s356 s357 s358 s359 s360 s361 s362 s363 s364 s365 s366 s367 s368 s369 s370 s371 s372 s373 s374 s375 s376 s377 s378 s379 s380 s381 s382 s383 s384 s385 s386 s387 s388 s389 s390 s391 s392 s393 s394 s395 s396 s397 s398 s399 s400 s401 s402 s403 s404 s405 s406 s407 s408 s409 s410 s411 s412 s413 s414 s415 s416 s417 s418 s419 s420 s421 s422 s423 s424 s425 s426 s427 s428 s429 s430 s431 s432 s433 s434 s435 s436 s437 s438 s439 s440 s441 s442 s443 s444 s445 s446 s447 s448 s449 s450 s451 s452 s453 s454 s455 s456 s457 s458 s459 s460 s461 s462 s463 s464 s465 s466 s467 s468 s469 s470 s471 s472 s473 s474 s475 s476 s477 s478 s479 s480 s481 s482 s483 s484 s485 s486 s487 s488 s489 s490 s491 s492 s493 s494 s495 s496 s497 s498 s499 s500 s501 s502 s503 s504 s505 s506 s507 s508 s509 s510 s511 s512 s513 s514 s515 s516 s517 s518 s519 s520 s521 s522 s523 s524 s525 s526 s527 s528 s529 s530 s531 s532 s533 s534 s535 s536 s537 s538 s539 s540 s541 s542 s543 s544 s545 s546 s547 s548 s549 s550 s551 s552 s553 s554 s555 s556 s557 s558 s559 s560 s561 : Value)
    (hexit : ∀ (u4 u58 u59 u60 u498 u499 u500 u501 u502 u503 u504 u505 u506 u507 u508 u509 u510 u511 u512 u513 u514 u515 u516 u517 u518 u519 u520 u521 u522 u523 u524 u525 u526 u527 u528 u529 u530 u531 u532 u533 u534 u535 u536 u537 u538 u539 u540 u541 u542 u543 u544 u545 u546 u547 u548 u549 u550 u551 u552 u553 u554 u555 : Value) (w' : World), New wB w' →
      Q0 (.exit 8) ⟨List.toArray (s0 :: s1 :: s2 :: s3 :: u4 :: s5 :: (.slice (some ⟨gp, 0, none⟩) n cp) :: s7 :: s8 :: s9 :: s10 :: s11 :: s12 :: s13 :: s14 :: s15 :: s16 :: s17 :: s18 :: s19 :: s20 :: s21 :: s22 :: s23 :: s24 :: s25 :: s26 :: s27 :: s28 :: s29 :: s30 :: s31 :: s32 :: s33 :: s34 :: s35 :: s36 :: s37 :: s38 :: s39 :: s40 :: s41 :: s42 :: s43 :: s44 :: s45 :: s46 :: s47 :: s48 :: s49 :: s50 :: s51 :: s52 :: s53 :: s54 :: (.slice (some ⟨gS, 0, none⟩) n cS) :: (.slice x6 n c6) :: s57 :: u58 :: u59 :: u60 :: s61 :: s62 :: s63 :: s64 :: s65 :: s66 :: s67 :: s68 :: s69 :: s70 :: s71 :: s72 :: s73 :: s74 :: s75 :: s76 :: s77 :: s78 :: s79 :: s80 :: s81 :: s82 :: s83 :: s84 :: s85 :: s86 :: s87 :: s88 :: s89 :: s90 :: s91 :: s92 :: s93 :: s94 :: s95 :: s96 :: s97 :: s98 :: s99 :: s100 :: s101 :: s102 :: s103 :: s104 :: s105 :: s106 :: s107 :: s108 :: s109 :: s110 :: s111 :: s112 :: s113 :: s114 :: s115 :: s116 :: s117 :: s118 :: s119 :: s120 :: s121 :: s122 :: s123 :: s124 :: s125 :: s126 :: s127 :: s128 :: s129 :: s130 :: s131 :: s132 :: s133 :: s134 :: s135 :: s136 :: s137 :: s138 :: s139 :: s140 :: s141 :: s142 :: s143 :: s144 :: s145 :: s146 :: s147 :: s148 :: s149 :: s150 :: s151 :: s152 :: s153 :: s154 :: s155 :: s156 :: s157 :: s158 :: s159 :: s160 :: s161 :: s162 :: s163 :: s164 :: s165 :: s166 :: s167 :: s168 :: s169 :: s170 :: s171 :: s172 :: s173 :: s174 :: s175 :: s176 :: s177 :: s178 :: s179 :: s180 :: s181 :: s182 :: s183 :: s184 :: s185 :: s186 :: s187 :: s188 :: s189 :: s190 :: s191 :: s192 :: s193 :: s194 :: s195 :: s196 :: s197 :: s198 :: s199 :: s200 :: s201 :: s202 :: s203 :: s204 :: s205 :: s206 :: s207 :: s208 :: s209 :: s210 :: s211 :: s212 :: s213 :: s214 :: s215 :: s216 :: s217 :: s218 :: s219 :: s220 :: s221 :: s222 :: s223 :: s224 :: s225 :: s226 :: s227 :: s228 :: s229 :: s230 :: s231 :: s232 :: s233 :: s234 :: s235 :: s236 :: s237 :: s238 :: s239 :: s240 :: s241 :: s242 :: s243 :: s244 :: s245 :: s246 :: s247 :: s248 :: s249 :: s250 :: s251 :: s252 :: s253 :: s254 :: s255 :: s256 :: s257 :: s258 :: s259 :: s260 :: s261 :: s262 :: s263 :: s264 :: s265 :: s266 :: s267 :: s268 :: s269 :: s270 :: s271 :: s272 :: s273 :: s274 :: s275 :: s276 :: s277 :: s278 :: s279 :: s280 :: s281 :: s282 :: s283 :: s284 :: s285 :: s286 :: s287 :: s288 :: s289 :: s290 :: s291 :: s292 :: s293 :: s294 :: s295 :: s296 :: s297 :: s298 :: s299 :: s300 :: s301 :: s302 :: s303 :: s304 :: s305 :: s306 :: s307 :: s308 :: s309 :: s310 :: s311 :: s312 :: s313 :: s314 :: s315 :: s316 :: s317 :: s318 :: s319 :: s320 :: s321 :: s322 :: s323 :: s324 :: s325 :: s326 :: s327 :: s328 :: s329 :: s330 :: s331 :: s332 :: s333 :: s334 :: s335 :: s336 :: s337 :: s338 :: s339 :: s340 :: s341 :: s342 :: s343 :: s344 :: s345 :: s346 :: s347 :: s348 :: s349 :: s350 :: s351 :: s352 :: s353 :: s354 :: s355 :: s356 :: s357 :: s358 :: s359 :: s360 :: s361 :: s362 :: s363 :: s364 :: s365 :: s366 :: s367 :: s368 :: s369 :: s370 :: s371 :: s372 :: s373 :: s374 :: s375 :: s376 :: s377 :: s378 :: s379 :: s380 :: s381 :: s382 :: s383 :: s384 :: s385 :: s386 :: s387 :: s388 :: s389 :: s390 :: s391 :: s392 :: s393 :: s394 :: s395 :: s396 :: s397 :: s398 :: s399 :: s400 :: s401 :: s402 :: s403 :: s404 :: s405 :: s406 :: s407 :: s408 :: s409 :: s410 :: s411 :: s412 :: s413 :: s414 :: s415 :: s416 :: s417 :: s418 :: s419 :: s420 :: s421 :: s422 :: s423 :: s424 :: s425 :: s426 :: s427 :: s428 :: s429 :: s430 :: s431 :: s432 :: s433 :: s434 :: s435 :: s436 :: s437 :: s438 :: s439 :: s440 :: s441 :: s442 :: s443 :: s444 :: s445 :: s446 :: s447 :: s448 :: s449 :: s450 :: s451 :: s452 :: s453 :: s454 :: s455 :: s456 :: s457 :: s458 :: s459 :: s460 :: s461 :: s462 :: s463 :: s464 :: s465 :: s466 :: s467 :: s468 :: s469 :: s470 :: s471 :: s472 :: s473 :: s474 :: s475 :: s476 :: s477 :: s478 :: s479 :: s480 :: s481 :: s482 :: s483 :: s484 :: s485 :: s486 :: s487 :: s488 :: s489 :: s490 :: s491 :: s492 :: s493 :: s494 :: s495 :: s496 :: s497 :: u498 :: u499 :: u500 :: u501 :: u502 :: u503 :: u504 :: u505 :: u506 :: u507 :: u508 :: u509 :: u510 :: u511 :: u512 :: u513 :: u514 :: u515 :: u516 :: u517 :: u518 :: u519 :: u520 :: u521 :: u522 :: u523 :: u524 :: u525 :: u526 :: u527 :: u528 :: u529 :: u530 :: u531 :: u532 :: u533 :: u534 :: u535 :: u536 :: u537 :: u538 :: u539 :: u540 :: u541 :: u542 :: u543 :: u544 :: u545 :: u546 :: u547 :: u548 :: u549 :: u550 :: u551 :: u552 :: u553 :: u554 :: u555 :: s556 :: s557 :: s558 :: s559 :: s560 :: s561 :: []), []⟩ w') :
    Code.wp Tryz.prog (Code.loop nnL4Body) Q0 ⟨List.toArray (s0 :: s1 :: s2 :: s3 :: s4 :: s5 :: (.slice (some ⟨gp, 0, none⟩) n cp) :: s7 :: s8 :: s9 :: s10 :: s11 :: s12 :: s13 :: s14 :: s15 :: s16 :: s17 :: s18 :: s19 :: s20 :: s21 :: s22 :: s23 :: s24 :: s25 :: s26 :: s27 :: s28 :: s29 :: s30 :: s31 :: s32 :: s33 :: s34 :: s35 :: s36 :: s37 :: s38 :: s39 :: s40 :: s41 :: s42 :: s43 :: s44 :: s45 :: s46 :: s47 :: s48 :: s49 :: s50 :: s51 :: s52 :: s53 :: s54 :: (.slice (some ⟨gS, 0, none⟩) n cS) :: (.slice x6 n c6) :: s57 :: (.int .i64 0) :: s59 :: s60 :: s61 :: s62 :: s63 :: s64 :: s65 :: s66 :: s67 :: s68 :: s69 :: s70 :: s71 :: s72 :: s73 :: s74 :: s75 :: s76 :: s77 :: s78 :: s79 :: s80 :: s81 :: s82 :: s83 :: s84 :: s85 :: s86 :: s87 :: s88 :: s89 :: s90 :: s91 :: s92 :: s93 :: s94 :: s95 :: s96 :: s97 :: s98 :: s99 :: s100 :: s101 :: s102 :: s103 :: s104 :: s105 :: s106 :: s107 :: s108 :: s109 :: s110 :: s111 :: s112 :: s113 :: s114 :: s115 :: s116 :: s117 :: s118 :: s119 :: s120 :: s121 :: s122 :: s123 :: s124 :: s125 :: s126 :: s127 :: s128 :: s129 :: s130 :: s131 :: s132 :: s133 :: s134 :: s135 :: s136 :: s137 :: s138 :: s139 :: s140 :: s141 :: s142 :: s143 :: s144 :: s145 :: s146 :: s147 :: s148 :: s149 :: s150 :: s151 :: s152 :: s153 :: s154 :: s155 :: s156 :: s157 :: s158 :: s159 :: s160 :: s161 :: s162 :: s163 :: s164 :: s165 :: s166 :: s167 :: s168 :: s169 :: s170 :: s171 :: s172 :: s173 :: s174 :: s175 :: s176 :: s177 :: s178 :: s179 :: s180 :: s181 :: s182 :: s183 :: s184 :: s185 :: s186 :: s187 :: s188 :: s189 :: s190 :: s191 :: s192 :: s193 :: s194 :: s195 :: s196 :: s197 :: s198 :: s199 :: s200 :: s201 :: s202 :: s203 :: s204 :: s205 :: s206 :: s207 :: s208 :: s209 :: s210 :: s211 :: s212 :: s213 :: s214 :: s215 :: s216 :: s217 :: s218 :: s219 :: s220 :: s221 :: s222 :: s223 :: s224 :: s225 :: s226 :: s227 :: s228 :: s229 :: s230 :: s231 :: s232 :: s233 :: s234 :: s235 :: s236 :: s237 :: s238 :: s239 :: s240 :: s241 :: s242 :: s243 :: s244 :: s245 :: s246 :: s247 :: s248 :: s249 :: s250 :: s251 :: s252 :: s253 :: s254 :: s255 :: s256 :: s257 :: s258 :: s259 :: s260 :: s261 :: s262 :: s263 :: s264 :: s265 :: s266 :: s267 :: s268 :: s269 :: s270 :: s271 :: s272 :: s273 :: s274 :: s275 :: s276 :: s277 :: s278 :: s279 :: s280 :: s281 :: s282 :: s283 :: s284 :: s285 :: s286 :: s287 :: s288 :: s289 :: s290 :: s291 :: s292 :: s293 :: s294 :: s295 :: s296 :: s297 :: s298 :: s299 :: s300 :: s301 :: s302 :: s303 :: s304 :: s305 :: s306 :: s307 :: s308 :: s309 :: s310 :: s311 :: s312 :: s313 :: s314 :: s315 :: s316 :: s317 :: s318 :: s319 :: s320 :: s321 :: s322 :: s323 :: s324 :: s325 :: s326 :: s327 :: s328 :: s329 :: s330 :: s331 :: s332 :: s333 :: s334 :: s335 :: s336 :: s337 :: s338 :: s339 :: s340 :: s341 :: s342 :: s343 :: s344 :: s345 :: s346 :: s347 :: s348 :: s349 :: s350 :: s351 :: s352 :: s353 :: s354 :: s355 :: s356 :: s357 :: s358 :: s359 :: s360 :: s361 :: s362 :: s363 :: s364 :: s365 :: s366 :: s367 :: s368 :: s369 :: s370 :: s371 :: s372 :: s373 :: s374 :: s375 :: s376 :: s377 :: s378 :: s379 :: s380 :: s381 :: s382 :: s383 :: s384 :: s385 :: s386 :: s387 :: s388 :: s389 :: s390 :: s391 :: s392 :: s393 :: s394 :: s395 :: s396 :: s397 :: s398 :: s399 :: s400 :: s401 :: s402 :: s403 :: s404 :: s405 :: s406 :: s407 :: s408 :: s409 :: s410 :: s411 :: s412 :: s413 :: s414 :: s415 :: s416 :: s417 :: s418 :: s419 :: s420 :: s421 :: s422 :: s423 :: s424 :: s425 :: s426 :: s427 :: s428 :: s429 :: s430 :: s431 :: s432 :: s433 :: s434 :: s435 :: s436 :: s437 :: s438 :: s439 :: s440 :: s441 :: s442 :: s443 :: s444 :: s445 :: s446 :: s447 :: s448 :: s449 :: s450 :: s451 :: s452 :: s453 :: s454 :: s455 :: s456 :: s457 :: s458 :: s459 :: s460 :: s461 :: s462 :: s463 :: s464 :: s465 :: s466 :: s467 :: s468 :: s469 :: s470 :: s471 :: s472 :: s473 :: s474 :: s475 :: s476 :: s477 :: s478 :: s479 :: s480 :: s481 :: s482 :: s483 :: s484 :: s485 :: s486 :: s487 :: s488 :: s489 :: s490 :: s491 :: s492 :: s493 :: s494 :: s495 :: s496 :: s497 :: s498 :: s499 :: s500 :: s501 :: s502 :: s503 :: s504 :: s505 :: s506 :: s507 :: s508 :: s509 :: s510 :: s511 :: s512 :: s513 :: s514 :: s515 :: s516 :: s517 :: s518 :: s519 :: s520 :: s521 :: s522 :: s523 :: s524 :: s525 :: s526 :: s527 :: s528 :: s529 :: s530 :: s531 :: s532 :: s533 :: s534 :: s535 :: s536 :: s537 :: s538 :: s539 :: s540 :: s541 :: s542 :: s543 :: s544 :: s545 :: s546 :: s547 :: s548 :: s549 :: s550 :: s551 :: s552 :: s553 :: s554 :: s555 :: s556 :: s557 :: s558 :: s559 :: s560 :: s561 :: []), []⟩ w9 := by
  conv => arg 2; arg 1; whnf
  obtain ⟨gq, offq, cuq, tq, frq, he, oq, hel⟩ := elsPal hsp.out hn0
  have he2 := Option.some.inj he
  simp only [Addr.mk.injEq, and_true] at he2
  obtain ⟨rfl, rfl⟩ := he2
  obtain ⟨gs, offs, cus, ts, frs, he', os, hes⟩ := elsPal hsS.out hn0
  have he3 := Option.some.inj he'
  simp only [Addr.mk.injEq, and_true] at he3
  obtain ⟨rfl, rfl⟩ := he3
  replace hel := hide hel
  replace oq := hide oq
  replace hes := hide hes
  replace os := hide os
  clear he he'
  go_loopw [58] (fun x wq => ∃ i : Nat, i ≤ n ∧ x = .int .i64 i ∧ New wB wq) (fun x _ => n - (intOf x).toNat)
  case atStart => exact ⟨0, by omega, rfl, hN9⟩
  case round =>
    obtain ⟨i, hi, rfl, hnw⟩ := hrel
    by_cases hlt : i < n
    · obtain ⟨y1, m1⟩ := hes.out i hlt
      try simp only [Nat.zero_add] at y1 m1
      obtain ⟨g6, cu6, rfl, o6, e6⟩ := h6 i hlt
      obtain ⟨O1, hO1⟩ : ∃ z, Hid (O i = z) := ⟨_, rfl⟩
      rw [hO1.out] at e6
      obtain ⟨l6, e6⟩ := Array.getElem?_eq_some_iff.1 e6
      have hOi := hO.out i hlt
      rw [hO1.out] at hOi
      obtain ⟨d, hd⟩ : ∃ d : Nat, Hid (O1 - 1 = d) := ⟨(O1 - 1).toNat, show _ = _ by omega⟩
      have hdo := hd.out
      have hdn : d < n := by omega
      have hdn2 : (d : Int) < n := by omega
      have hdw : IntKind.i64.wrap (O1 - 1) = (d : Int) := by rw [show IntKind.i64.wrap (O1 - 1) = O1 - 1 by simp [IntKind.wrap, IntKind.bits, IntKind.signed]; omega]; omega
      obtain ⟨y2, m2⟩ := hel.out d hdn
      try simp only [Nat.zero_add] at y2 m2
      obtain ⟨t0, t1, t2⟩ := hat.out i
      rw [hO1.out, show O1.toNat - 1 = d by omega] at t0 t1 t2
      rw [← t0, ← t1, ← t2] at y2
      obtain ⟨s, hT⟩ : ∃ s, Hid (NnTone (S (i * 3)) (S (i * 3 + 1)) (S (i * 3 + 2)) s) := ⟨_, nn_tone hSb.out i⟩
      have heq : eq3 (S (i * 3)) (S (i * 3 + 1)) (S (i * 3 + 2)) (S (i * 3)) (S (i * 3 + 1)) (S (i * 3 + 2)) = true := by rw [eq3_t]; exact ⟨rfl, rfl, rfl⟩
      have pS := (hnw.objs _ (obj_lt os.out)).trans os.out
      have qS := obj_lt pS
      have hlt2 : (i : Int) < n := by omega
      clear t0 t1 t2 hdo hOi
      go_wp2_with (fail)
      refine (ttext_ik hT.out (hSb.out _) (hSb.out _) (hSb.out _) _).mono ?_
      rintro e wa ⟨rfl, hna⟩
      have hnX := hnw.trans hna
      go_wp2_with (fail)
      refine (rtone_ik hT.out _).mono ?_
      rintro e wb ⟨rfl, hnb⟩
      have hnV := hnX.trans hnb
      clear pS qS hna hnb hnX
      go_upto_region 63 with (fail)
      generalize hwc : World.alloc wb (Obj.cells #[.int .u8 (S (i * 3)), .int .u8 (S (i * 3 + 1)), .int .u8 (S (i * 3 + 2))] 26) = wc
      obtain ⟨gT, hgT⟩ : ∃ g, Hid (wb.heap.size = g) := ⟨_, rfl⟩
      have pT : obj wc gT = some (.cells #[.int .u8 (S (i * 3)), .int .u8 (S (i * 3 + 1)), .int .u8 (S (i * 3 + 2))] 26) := by rw [← hwc, ← hgT.out]; exact obj_alloc_at _ _ _ rfl
      have hnY : New wB wc := by rw [← hwc]; exact hnV.alloc _
      rw [hgT.out]
      clear hwc hgT hnV
      have pS := (hnY.objs _ (obj_lt os.out)).trans os.out
      have pP := (hnY.objs _ (obj_lt oq.out)).trans oq.out
      have p6 := (hnY.objs _ (obj_lt o6)).trans o6
      have qS := obj_lt pS
      have qP := obj_lt pP
      have q6 := obj_lt p6
      have qT := obj_lt pT
      by_cases hi0 : i = 0
      · have hi00 : (i : Int) = 0 := by omega
        have hgt : decide ((0 : Int) < i) = false := decide_eq_false (by omega)
        subst hi0
        try simp only [Nat.zero_mul, Nat.zero_add] at y1 m1 y2 e6 l6 heq pT hT ⊢
        go_wp2_with (fail)
        go_wp2_with (fail)
        refine wp_region_new (by kernel_rfl) (by kernel_rfl) ?_
        repeat (go_big_quiet_step (first | fail | (go_at_call 36; with_reducible exact calls_new (bright_impl _ _ _ (hSb.out _) (hSb.out _) (hSb.out _) _))))
        refine wpQuiet_nil ?_
        intro w1 hc1
        have hn1 := NewW.of hc1
        clear hc1
        have ho1 := hn1.objs
        have hz1 := hn1.le
        try simp at hz1
        have k1_0 : gS < w1.heap.size := by omega
        have k1_1 : gp < w1.heap.size := by omega
        have k1_2 : g6 < w1.heap.size := by omega
        have k1_3 : gT < w1.heap.size := by omega
        have hi0 : True := trivial
        have hnZ := hnY.trans hn1
        clear pS pP p6 pT qS qP q6 qT ho1
        go_wp2_with (fail)
        go_roundw
        case rel => exact ⟨0 + 1, by omega, by go_num, hnZ⟩
        case measure => simp [intOf]; omega
      · obtain ⟨i', hi'⟩ : ∃ i', Hid (i' + 1 = i) := ⟨i - 1, show _ = _ by omega⟩
        have hi'' := hi'.out
        have hip : 0 < i := by omega
        have hip2 : (0 : Int) < i := by omega
        have hltp : i' < n := by omega
        have hdec : IntKind.i64.wrap ((i : Int) - 1) = (i' : Int) := by rw [show IntKind.i64.wrap ((i : Int) - 1) = (i : Int) - 1 by simp [IntKind.wrap, IntKind.bits, IntKind.signed]; omega]; omega
        obtain ⟨y3, m3⟩ := hes.out i' hltp
        try simp only [Nat.zero_add] at y3 m3
        have hri := hrise.out i' (by omega)
        rw [hi''] at hri
        have hbr : decide (bright (S (i * 3)) (S (i * 3 + 1)) (S (i * 3 + 2)) < bright (S (i' * 3)) (S (i' * 3 + 1)) (S (i' * 3 + 2))) = false := decide_eq_false (by omega)
        clear hi'' hri
        go_wp2_with (fail)
        go_wp2_with (fail)
        refine wp_region_new (by kernel_rfl) (by kernel_rfl) ?_
        repeat (go_big_quiet_step (first | fail | (go_at_call 36; with_reducible exact calls_new (bright_impl _ _ _ (hSb.out _) (hSb.out _) (hSb.out _) _))))
        refine wpQuiet_nil ?_
        intro w2 hc2
        have hn2 := NewW.of hc2
        clear hc2
        have ho2 := hn2.objs
        have hz2 := hn2.le
        try simp at hz2
        have k2_0 : gS < w2.heap.size := by omega
        have k2_1 : gp < w2.heap.size := by omega
        have k2_2 : g6 < w2.heap.size := by omega
        have k2_3 : gT < w2.heap.size := by omega
        have hnZ := hnY.trans hn2
        clear pS pP p6 pT qS qP q6 qT ho2
        go_wp2_with (fail)
        go_roundw
        case rel => exact ⟨i + 1, by omega, by go_num, hnZ⟩
        case measure => simp [intOf]; omega
    · have hin : i = n := by omega
      go_wp2_with (fail)
      exact hnw
end Go.Proofs.YtphjhegaplochaaGreatDoor
/- An image is equal to itself, by the operator; no condition. -/
set_option linter.unusedVariables false
namespace Go.Proofs.YtphjhegaplochaaGreatDoor
open Go.BigFrame
open Go.RowKit Go.Arr
theorem sizeU8 (w : World) : (sizeOf 5).run Tryz.prog w = .ok 1 w := by kernel_rfl
theorem sizeTn (w : World) : (sizeOf 26).run Tryz.prog w = .ok 3 w := by kernel_rfl
theorem eqTn (w : World) (d : Nat) (x y z : Int) : (Op.equalIn (d + 2) 26 (.agg #[.int .u8 x, .int .u8 y, .int .u8 z]) (.agg #[.int .u8 x, .int .u8 y, .int .u8 z])).run Tryz.prog w = .ok true w := by
  rw [show (#[.int .u8 x, .int .u8 y, .int .u8 z] : Array Value) = arr 3 .u8 (fun i => if i = 0 then x else if i = 1 then y else z) from rfl]
  exact (run_equalIn_arr w d 26 5 Tryz.underlying26 Tryz.underlying5 sizeU8).trans (by simp [eqUpto])
theorem part_tone (f : Nat → Int) (i : Nat) (hi : i < 144) (w : World) : (part 26 (arr 432 .u8 f) (i * 3)).run Tryz.prog w = .ok (.agg #[.int .u8 (f (i * 3)), .int .u8 (f (i * 3 + 1)), .int .u8 (f (i * 3 + 2))]) w := by
  have hx : (arr 432 .u8 f).extract (i * 3) (i * 3 + 3) = #[.int .u8 (f (i * 3)), .int .u8 (f (i * 3 + 1)), .int .u8 (f (i * 3 + 2))] := arr3 (by omega) rfl
  simp [part, isAgg, run_underlying Tryz.underlying26, hx]
theorem eqTs (w : World) (d : Nat) (f : Nat → Int) : (Op.equalIn (d + 2 + 1) 27 (.agg (arr 432 .u8 f)) (.agg (arr 432 .u8 f))).run Tryz.prog w = .ok true w := by
  rw [Op.equalIn]
  simp only [Sem.run_bind, run_underlying Tryz.underlying27, Result.andThen_ok, sizeTn, Std.Legacy.Range.forIn_eq_forIn_range', Std.Legacy.Range.size, Nat.sub_zero, Nat.add_sub_cancel, Nat.div_one]
  have hl : ∀ i ∈ List.range' 0 144 1, i < 144 := fun i hi => by simpa using (List.mem_range'_1.1 hi).2
  generalize List.range' 0 144 1 = l at hl ⊢
  induction l with
  | nil => simp
  | cons i l ih =>
    have hi : i < 144 := hl i (by simp)
    have px := part_tone f i hi w
    have pe := eqTn w d (f (i * 3)) (f (i * 3 + 1)) (f (i * 3 + 2))
    simp only [List.forIn_cons, Sem.run_bind, px, pe, Result.andThen_ok, Bool.not_true, Bool.false_eq_true, if_false, Sem.run_pure]
    exact ih fun j hj => hl j (by simp [hj])
theorem eqTs9 (w : World) (f : Nat → Int) : (Op.equalIn 9999 27 (.agg (arr 432 .u8 f)) (.agg (arr 432 .u8 f))).run Tryz.prog w = .ok true w := eqTs w 9996 f
attribute [local go_sem high] eqTs9
set_option maxHeartbeats 400000 in
set_option maxRecDepth 100000 in
theorem neImg (w : World) (a b : Int) (f : Nat → Int) : (binOp .neq 29 (.agg (pic 432 a b f)) (.agg (pic 432 a b f))).run Tryz.prog w = .ok (.bool false) w := by
  go_simp
attribute [go_sem high] neImg
set_option maxRecDepth 100000 in
theorem bldTn (w : World) : (Instr.build 26 #[]).run Tryz.prog w = .ok (.agg #[.int .u8 0, .int .u8 0, .int .u8 0]) w := by kernel_rfl
attribute [go_sem high] bldTn
end Go.Proofs.YtphjhegaplochaaGreatDoor
/- A palette read from its text, by the program; no condition. -/
set_option linter.unusedVariables false
namespace Go.Proofs.YtphjhegaplochaaGreatDoor
open Go.BigFrame
open Go.RowKit Go.Arr
theorem PRow.form2 {W : World} {base n : Nat} {v : Value} {f : Nat → Int} (h : PRow W base v n f) : ∃ a cap, v = .slice a n cap ∧ n ≤ cap := by
  rcases h.shape with ⟨h1, h2⟩ | ⟨g, cap, cur, h1, _, _, _, h4, _⟩
  · exact ⟨none, 0, by rw [h2]; exact h1, by omega⟩
  · exact ⟨_, _, h1, h4⟩
set_option maxHeartbeats 2000000 in
set_option maxRecDepth 100000 in
theorem readPal_impl (s : ByteArray) (hs : s.size ≤ 1048576) (m : Int) (W : World) (hm : W.cell? ⟨Tryz.laysM146_ren.g 1, 0, none⟩ = some (.int .i64 m)) :
    Calls Tryz.prog 7 #[.string s] W fun e w' => ∃ v, e = .returned (.tuple #[v, .int .i64 (rpC s)]) ∧ PRow w' W.heap.size v (rpN s) (wdF (wds s)) ∧ New W w' := by
  go_enter Tryz.func7, Tryz.ntmps7
  go_wp2_with (fail)
  have hgl := World.block_lt_of_cell? _ _ hm
  have hm0 : (W.alloc (Obj.cells #[] 26)).cell? ⟨Tryz.laysM146_ren.g 1, 0, none⟩ = some (.int .i64 m) := by rw [((New.refl W).alloc _).cells _ _ hgl]; exact hm
  refine (split_any 32 s hs m _ hm0).mono ?_
  rintro e w1 ⟨v1, rfl, hws, hn0⟩
  have ob : obj w1 W.heap.size = some (.cells #[] 26) := (hn0.objs _ (by simp)).trans (obj_alloc_at _ _ _ rfl)
  have hn1 : New W w1 := ((New.refl W).alloc _).trans hn0
  have hwl := hn1.le
  have hlen := wds_b s
  have hle := hide (fun h => wds_le (s := s) h)
  have hsz := hide (fun j hj => wds_sz (s := s) (j := j) hj)
  have hCf := hide (fun j hj h => rpC_f (rpO_w (s := s) (j := j) hj h))
  have hNf := hide (fun j hj h => rpN_f (rpO_w (s := s) (j := j) hj h))
  have hOe := hide (fun h => rpO_e (s := s) h)
  have hCt := hide (fun h => rpC_t (s := s) h)
  have hNt := hide (fun h => rpN_t (s := s) h)
  have hCf2 := hide (fun h => rpC_f (s := s) h)
  have hNf2 := hide (fun h => rpN_f (s := s) h)
  change WS w1 (W.alloc (Obj.cells #[] 26)).heap.size v1 (wds s) at hws
  simp only [World.size_alloc] at hws
  obtain ⟨ls, hls⟩ : ∃ ls, Hid (wds s = ls) := ⟨_, rfl⟩
  rw [hls.out] at hws hlen hle hsz hCf hNf hOe hNt
  obtain ⟨x3, y3, rfl⟩ := hws.form
  go_wp2_with (fail)
  go_loopw [13, 4] (fun x v wr => ∃ i : Nat, i ≤ ls.length ∧ x = .int .i64 (i : Nat) ∧ PRow wr W.heap.size v i (wdF ls) ∧ Hid (∀ j, j < i → wdO ls j = true) ∧ New W wr ∧ Hid (∀ q, W.heap.size < q → q < w1.heap.size → obj wr q = obj w1 q) ∧ Hid (∀ q : Nat, v.ownBlock = some q → q = W.heap.size ∨ w1.heap.size ≤ q) ∧ w1.heap.size ≤ wr.heap.size) (fun x _ _ => ls.length - (intOf x).toNat)
  case atStart => exact ⟨0, by omega, rfl, prow_empty ob (Nat.le_refl _), fun j hj => absurd hj (by omega), hn1, fun q _ _ => rfl, fun q hq => Or.inl (by simp [Value.ownBlock] at hq; omega), Nat.le_refl _⟩
  case round =>
    obtain ⟨i, hi, rfl, hrow, hal, hnw, hkeep, hvo, hlw⟩ := hrel
    by_cases hlt : i < ls.length
    · obtain ⟨gs, cur, rfl, os, lsz, es⟩ := hws.slot hlt
      have hsw := hsz.out i hlt
      have hgi := getD_at (d := ([] : List UInt8)) hlt
      have hgb := hws.block gs rfl
      have os2 := (hkeep.out gs (by omega) hgb.2).trans os
      have lgs := obj_lt os2
      replace es : cur[i] = .string (wdB ls[i]) := es
      have hwo : Hid (wdO ls i = okText (wdB ls[i])) := by show _ = _; unfold wdO; rw [hgi]
      have h0 : Hid (wdF ls (i * 3) = toneV (wdB ls[i]) 0) := by show _ = _; unfold wdF; rw [show i * 3 / 3 = i by omega, show i * 3 % 3 = 0 by omega, hgi]
      have h1 : Hid (wdF ls (i * 3 + 1) = toneV (wdB ls[i]) 1) := by show _ = _; unfold wdF; rw [show (i * 3 + 1) / 3 = i by omega, show (i * 3 + 1) % 3 = 1 by omega, hgi]
      have h2 : Hid (wdF ls (i * 3 + 2) = toneV (wdB ls[i]) 2) := by show _ = _; unfold wdF; rw [show (i * 3 + 2) / 3 = i by omega, show (i * 3 + 2) % 3 = 2 by omega, hgi]
      generalize wdB ls[i] = z at hsw es hwo h0 h1 h2
      clear os hgi
      go_wp2_with (fail)
      refine (readTone_impl z (by omega) _).mono ?_
      rintro e w2 ⟨rfl, hn2⟩
      have hn2' := hnw.trans hn2
      have hrow2 := hrow.new hn2
      have hkeep2 : Hid (∀ q, W.heap.size < q → q < w1.heap.size → obj w2 q = obj w1 q) := fun q h1 h2 => (hn2.objs _ (by omega)).trans (hkeep.out q h1 h2)
      have hz2 := hn2.le
      have hzb := fun k hk h => toneV_b (s := z) h k hk
      cases hok : okText z
      · rw [codeT_f hok]
        have hC := hide (hCf.out i hlt (by rw [hwo.out, hok]))
        have hN := hide (hNf.out i hlt (by rw [hwo.out, hok]))
        clear hok
        go_wp2_with (fail)
        go_ret2
        exact ⟨_, by rw [hC.out]; rfl, by rw [hN.out]; exact ⟨by simp, .inl ⟨rfl, rfl⟩⟩, hn2'.alloc _⟩
      · have hal2 : Hid (∀ j, j < i + 1 → wdO ls j = true) := fun j hj => by
          by_cases e : j = i
          · rw [e, hwo.out, hok]
          · exact hal.out j (by omega)
        have r0 := hzb 0 (by omega) hok
        have r1 := hzb 1 (by omega) hok
        have r2 := hzb 2 (by omega) hok
        rw [readV_t hok, codeT_t hok]
        have hbk := hide hrow2.block
        clear hzb hok
        go_wp2_with (at_builtin; refine wpList_app slTones rfl _ _ rfl W.heap.size _ _ _ rfl (hrow2.new (((New.refl _).alloc _).alloc _)) ⟨w2.heap.size + 1, 0, none⟩ 1 1 [.int .u8 (toneV z 0), .int .u8 (toneV z 1), .int .u8 (toneV z 2)] rfl rfl (news_new _ _ _ _ _ (by simp)) (by simp [Value.oneCell']) (by omega) (by unfold maxLen; omega) (by omega) (by have := hn2.le; simp; omega) ?_)
        intro g1 cap1 w3 hown1 hg1 hat1 hlt1
        have hr3 := prow_app (f := wdF ls) hown1 h0.out h1.out h2.out
        have hn3 : New W w3 := grown_new ((hn2'.alloc _).alloc _) hg1 fun b hb => (hbk.out b hb).1
        have hz3 := grown_le hg1
        simp only [World.size_alloc] at hz3
        have hkeep3 : Hid (∀ q, W.heap.size < q → q < w1.heap.size → obj w3 q = obj w1 q) := fun q h1 h2 => by
          rw [grown_obj hg1 q (by simp; omega) (fun e => by have := hvo.out q e.symm; omega), obj_alloc_past _ _ _ (by simp; omega), obj_alloc_past _ _ _ (by omega)]
          exact hkeep2.out q h1 h2
        have hvo3 : Hid (∀ q : Nat, (Value.slice (some ⟨g1, 0, none⟩) (i + 1) cap1).ownBlock = some q → q = W.heap.size ∨ w1.heap.size ≤ q) := fun q hq => by
          simp [Value.ownBlock] at hq
          subst hq
          rcases hat1 with h | h
          · exact hvo.out _ h
          · right; (try simp at h); omega
        clear hown1 hg1 hat1 hbk hrow2
        go_wp2_with (fail)
        go_roundw
        case rel => exact ⟨i + 1, by omega, by go_num, hr3, hal2, hn3, hkeep3, hvo3, by omega⟩
        case measure => simp [intOf]; omega
    · have hie : i = ls.length := by omega
      rw [hie] at hrow
      have hw0 : ls.length ≤ 1048576 := by
        by_cases e : ls.length = 0
        · omega
        · have := hle.out (hal.out 0 (by omega)); omega
      have hOe2 := hide (hOe.out fun j hj => hal.out j (by omega))
      obtain ⟨x6, y6, rfl, hcy⟩ := hrow.form2
      clear hie hal hle
      go_wp2_with (fail)
      refine (validPal_impl x6 ls.length y6 (wdF ls) hw0 hcy _ hrow.sl).mono ?_
      rintro e w4 ⟨rfl, hn4⟩
      have hn4' := hnw.trans hn4
      have hrow4 := hrow.new hn4
      clear hrow
      cases hop : okPal ls.length (wdF ls)
      · have hC := hide (hCf2.out (by rw [hOe2.out, hop]))
        have hN := hide (hNf2.out (by rw [hOe2.out, hop]))
        clear hop
        go_wp2_with (fail)
        go_ret2
        exact ⟨_, by rw [hC.out]; rfl, by rw [hN.out]; exact ⟨by simp, .inl ⟨rfl, rfl⟩⟩, hn4'⟩
      · have hC := hide (hCt.out (by rw [hOe2.out, hop]))
        have hN := hide (hNt.out (by rw [hOe2.out, hop]))
        clear hop
        go_wp2_with (fail)
        go_ret2
        exact ⟨_, by rw [hC.out]; rfl, by rw [hN.out, hls.out]; exact hrow4, hn4'⟩
end Go.Proofs.YtphjhegaplochaaGreatDoor
/- Pictures whose errors are spread: the parts of a cell, plain; no condition. -/
set_option linter.unusedVariables false
namespace Go.Proofs.YtphjhegaplochaaGreatDoor
open Go.BigFrame
open Go.RowKit Go.Arr
theorem l00In_k {k : Bool} {n lo hi : Int} (h : inB n lo hi = k) (w : World) : Calls Tryz.prog 56 #[.int .i64 n, .int .i64 lo, .int .i64 hi] w fun e w' => e = .returned (.bool k) ∧ w = w' := by
  subst h
  exact l00In_any n lo hi w
theorem l00In_n {k : Bool} {n lo hi : Int} (h : inB n lo hi = k) (w : World) : Calls Tryz.prog 56 #[.int .i64 n, .int .i64 lo, .int .i64 hi] w fun e w' => e = .returned (.bool k) ∧ New w w' :=
  (l00In_k h w).mono fun _ _ ⟨h1, h2⟩ => ⟨h1, by subst h2; exact New.refl _⟩
theorem okImg_ab {a b : Int} {fm : Nat → Int} (h : okImg a b fm = true) : (1 ≤ a ∧ a ≤ 12) ∧ (1 ≤ b ∧ b ≤ 12) := by
  cases h1 : isSizeB a b
  · rw [okImg_size a b fm h1] at h; cases h
  · unfold isSizeB at h1
    rw [Bool.and_eq_true] at h1
    exact ⟨inB_t.1 h1.1, inB_t.1 h1.2⟩
/-- the parts, as the reference lays them -/
def qD (k : Nat) (j : Nat) : Int := if j % 3 = 0 then (k : Int) % 12 + dxD (j / 3) else if j % 3 = 1 then (k : Int) / 12 + dyD (j / 3) else wtD (j / 3)
theorem q_eq (k j : Nat) (hj : j < 12) : upd (upd (upd (upd (upd (upd (upd (upd (upd (upd (upd (upd (fun _ => 0) 0 ((k : Int) % 12 + 1)) 1 ((k : Int) / 12)) 2 7) 3 ((k : Int) % 12 - 1)) 4 ((k : Int) / 12 + 1)) 5 3) 6 ((k : Int) % 12)) 7 ((k : Int) / 12 + 1)) 8 5) 9 ((k : Int) % 12 + 1)) 10 ((k : Int) / 12 + 1)) 11 1 j = qD k j := by
  have h : j = 0 ∨ j = 1 ∨ j = 2 ∨ j = 3 ∨ j = 4 ∨ j = 5 ∨ j = 6 ∨ j = 7 ∨ j = 8 ∨ j = 9 ∨ j = 10 ∨ j = 11 := by omega
  rcases h with rfl | rfl | rfl | rfl | rfl | rfl | rfl | rfl | rfl | rfl | rfl | rfl <;> simp [upd, qD, dxD, dyD, wtD] <;> omega
theorem qD_0 (k d : Nat) : qD k (d * 3) = (k : Int) % 12 + dxD d := by unfold qD; rw [if_pos (by omega), show d * 3 / 3 = d by omega]
theorem qD_1 (k d : Nat) : qD k (d * 3 + 1) = (k : Int) / 12 + dyD d := by unfold qD; rw [if_neg (by omega), if_pos (by omega), show (d * 3 + 1) / 3 = d by omega]
theorem qD_2 (k d : Nat) : qD k (d * 3 + 2) = wtD d := by unfold qD; rw [if_neg (by omega), if_neg (by omega), show (d * 3 + 2) / 3 = d by omega]
theorem spS_skip {a b : Int} {k d K : Nat} {F e : Nat → Int} (h : inD a b k d = false) : arr 432 .i64 (spS (fun d' k' => decide (k' < K) || (k' == K && decide (d' < d))) a b k F e) = arr 432 .i64 (spS (fun d' k' => decide (k' < K) || (k' == K && decide (d' < d + 1))) a b k F e) :=
  arr_congr fun j _ => spS_congr (fun d' k' _ _ hi => by
    by_cases e1 : d' = d
    · subst e1; rw [h] at hi; cases hi
    · have : decide (d' < d) = decide (d' < d + 1) := by rw [decide_eq_decide]; omega
      rw [this]) j
theorem spS_done {a b : Int} {k d K : Nat} {F e : Nat → Int} (hd : d < 4) (hK : K < 3) (h : inD a b k d = true) : arr 432 .i64 (upd (spS (fun d' k' => decide (k' < K) || (k' == K && decide (d' < d))) a b k F e) (tgD k d * 3 + K) (vlD F e k d K)) = arr 432 .i64 (spS (fun d' k' => decide (k' < K) || (k' == K && decide (d' < d + 1))) a b k F e) :=
  arr_congr fun j _ => (spS_upd hd hK h j).trans (spS_congr (fun d' k' _ _ _ => by
    by_cases e1 : k' = K
    · subst e1
      have : (decide (d' < d) || d' == d) = decide (d' < d + 1) := by
        by_cases h1 : d' = d
        · subst h1; simp
        · rw [show (d' == d) = false by simpa using h1, Bool.or_false, decide_eq_decide]; omega
      simp [← this]
    · have : (k' == K) = false := by simpa using e1
      simp [this]) j)
theorem vlD_e (F e : Nat → Int) (n d k : Nat) : vlD F e n d k = wrap64 (F (tgD n d * 3 + k) + wrap64 (wtD d * e k) / 16) := rfl
theorem dD_b (d : Nat) : (-1 ≤ dxD d ∧ dxD d ≤ 1) ∧ (0 ≤ dyD d ∧ dyD d ≤ 1) ∧ (1 ≤ wtD d ∧ wtD d ≤ 7) := by
  unfold dxD dyD wtD
  refine ⟨?_, ?_, ?_⟩ <;> (repeat' split) <;> omega
theorem tgD_i (k d : Nat) (hd : d < 4) : ((k : Int) % 12 + dxD d) + 12 * ((k : Int) / 12 + dyD d) = (tgD k d : Nat) := by
  have h3 : d = 0 ∨ d = 1 ∨ d = 2 ∨ d = 3 := by omega
  rcases h3 with rfl | rfl | rfl | rfl <;> simp [tgD, dxD, dyD] <;> omega
end Go.Proofs.YtphjhegaplochaaGreatDoor
