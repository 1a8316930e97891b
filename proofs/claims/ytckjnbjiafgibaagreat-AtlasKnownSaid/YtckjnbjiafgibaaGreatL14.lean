/- Parts of the proof, in one text. -/
import Derived.Test.YtckjnbjiafgibaaGreatL13
import Derived.Test.YtckjnbjiafgibaaGreatL7
import Derived.Test.YtckjnbjiafgibaaGreatL11
import Derived.Test.YtckjnbjiafgibaaGreatL10
import Derived.Test.YtckjnbjiafgibaaGreatL4
import Derived.Test.YtckjnbjiafgibaaGreatL12
import Derived.BigFrame
namespace Go.Proofs.YtckjnbjiafgibaaGreat
set_option linter.unusedVariables false
set_option linter.unusedSimpArgs false
set_option maxRecDepth 100000
set_option maxHeartbeats 16000000
open _root_.Go.RowKit.Below renaming refl->zB
open _root_.List renaming length_set->zC
open _root_.Nat renaming le_refl->zA
section
open Go.RowKit Go.Maps
attribute [local irreducible] wpList
theorem akLoop4 {Q:Exit->Act->World->Prop} {w wr:World} {k:Book} {V3:ALoc} {c0 c2 c3 c4 c5 c6 c7 c8 c9 c10 c11 c12 c13 c14 c15 c16 c17 c18 c19 c20 c21 c22 c24 c27 c28 c29 c30 c31 c32 c33 c34 c35 c36 c37 c38 c39 c40 c41 c42 c43 c44 c45 c46 c47 c48 c49 c50 c51 c52 c53 c54 c55 c56 c57 c58 c59 c60 c61 c62 c63 c64 c65 c66 c67 c68 c69 c70 c71 c72 c73 c74 c75 c76 c77 c78 c79 c80 c81 c82 c83 c84 c85 c86 c87 c88 c89 c90 c91 c92 c93 c94 c95 c96 c97 c98 c99 c100 c101 c102 c103 c104 c105 c106 c107 c108 c109 c110 c111 c112 c113 c114 c115 c116 c117 c118 c119 c120 c121 c122 c123 c124 c125 c126 c127 c128 c129 c130 c131 c132 c133 c134 c135 c136 c137 c138 c139 c140 c141 c142 c143 c144 c145 c146 c147 c148 c149 c150 c151 c152 c153 c154 c155 c156 c157 c158 c159 c160 c161 c162 c163 c164 c165 c166 c167 c168 c169 c170 c171 c172 c173 c174 c175 c176 c177 c178 c179 c180 c181 c182 c183 c184 c185 c186 c187 c188 c189 c190 c191 c192 c193 c194 c195 c196 c197 c198 c199 c200 c201 c202 c203 c204 c205 c206 c207 c208 c209 c210 c211 c212 c213 c214 c215 c216 c217 c218 c219 c220 c221 c222 c223 c224 c225 c226 c227 c228 c229 c230 c231 c232 c233 c234 c235 c236 c237 c238 c239 c240 c241 c242 c243 c244 c245 c246 c247 c248 c249 c250 c251 c252 c253 c254 c255 c256 c257 c258 c259 c260 c261 c262 c263 c264 c265 c266 c267 c268 c269 c270 c271 c272 c273 c274 c275 c276 c277 c278 c279 c280 c281 c282 c283 c284 c285 c286 c287 c288 c289 c290 c291 c292 c293 c294 c295 c296 c297 c298 c299 c300 c301 c302 c303 c304 c305 c306 c307 c308 c309 c310 c311 c312 c313 c314 c315 c316 c317 c318 c319 c320 c321 c322 c323 c324 c325 c326 c327 c328 c329 c330 c331 c332 c333 c334 c335 c336 c337 c338 c339 c340 c341 c342 c343 c344 c345 c346 c347 c348 c349 c350 c351 c352 c353 c354 c355 c356 c357 c358 c359 c360 c361 c362 c363 c364 c365 c366 c367 c368 c369 c370 c371 c372 c373 c374 c375 c376 c377 c378 c379 c380 c381 c382 c383 c384 c385 c386 c387 c388 c389 c390 c391 c392 c393 c394 c395 c396 c397 c398 c399 c400 c401 c402 c403 c404 c405 c406 c407 c408 c409 c410 c411 c412 c413 c414 c415 c416 c417 c418 c419 c420 c421 c422 c423 c424 c425 c426 c427 c428 c429 c430 c431 c432 c433 c434 c435 c436 c437 c438 c439 c440 c441 c442 c443 c444 c445 c446 c447 c448 c449 c450 c451 c452 c453 c454 c455 c456 c457 c458 c459 c460 c461 c462 c463 c464 c465 c466 c467 c468 c469 c470 c471 c472 c473 c474 c475 c476 c477 c478 c479 c480 c481 c482 c483 c484 c485 c486:Value} (HS3:Hid (ASt w k V3 ak0 600 wr))
 (hexit:∀ (u27 u28 u29 u280 u281 u282 u283 u284 u285 u286 u287 u288 u289 u290 u291 u292 u293 u294 u295 u296 u297 u298 u299 u300 u301 u302 u303 u304 u305 u306 u307 u308 u309 u310 u311 u312 u313 u314 u315 u316 u317 u318 u319 u320 u321 u322 u323 u324 u325 u326 u327 u328 u329 u330 u331 u332 u333 u334 u335 u336 u337 u338 u339 u340 u341 u342 u343 u344 u345 u346 u347 u348:Value) (w':World),ASt w k V3 ak0 600 w'->Q (.exit 7) ⟨(c0 :: .pointer (some ⟨k.g,0,none⟩) :: c2 :: c3 :: c4 :: c5 :: c6 :: c7 :: c8 :: c9 :: c10 :: c11 :: c12 :: c13 :: c14 :: c15 :: c16 :: c17 :: c18 :: c19 :: c20 :: c21 :: c22 :: .pointer (some ⟨V3.g,0,none⟩) :: c24 :: .int .i64 11 :: .int .i64 11 :: u27 :: u28 :: u29 :: c30 :: c31 :: c32 :: c33 :: c34 :: c35 :: c36 :: c37 :: c38 :: c39 :: c40 :: c41 :: c42 :: c43 :: c44 :: c45 :: c46 :: c47 :: c48 :: c49 :: c50 :: c51 :: c52 :: c53 :: c54 :: c55 :: c56 :: c57 :: c58 :: c59 :: c60 :: c61 :: c62 :: c63 :: c64 :: c65 :: c66 :: c67 :: c68 :: c69 :: c70 :: c71 :: c72 :: c73 :: c74 :: c75 :: c76 :: c77 :: c78 :: c79 :: c80 :: c81 :: c82 :: c83 :: c84 :: c85 :: c86 :: c87 :: c88 :: c89 :: c90 :: c91 :: c92 :: c93 :: c94 :: c95 :: c96 :: c97 :: c98 :: c99 :: c100 :: c101 :: c102 :: c103 :: c104 :: c105 :: c106 :: c107 :: c108 :: c109 :: c110 :: c111 :: c112 :: c113 :: c114 :: c115 :: c116 :: c117 :: c118 :: c119 :: c120 :: c121 :: c122 :: c123 :: c124 :: c125 :: c126 :: c127 :: c128 :: c129 :: c130 :: c131 :: c132 :: c133 :: c134 :: c135 :: c136 :: c137 :: c138 :: c139 :: c140 :: c141 :: c142 :: c143 :: c144 :: c145 :: c146 :: c147 :: c148 :: c149 :: c150 :: c151 :: c152 :: c153 :: c154 :: c155 :: c156 :: c157 :: c158 :: c159 :: c160 :: c161 :: c162 :: c163 :: c164 :: c165 :: c166 :: c167 :: c168 :: c169 :: c170 :: c171 :: c172 :: c173 :: c174 :: c175 :: c176 :: c177 :: c178 :: c179 :: c180 :: c181 :: c182 :: c183 :: c184 :: c185 :: c186 :: c187 :: c188 :: c189 :: c190 :: c191 :: c192 :: c193 :: c194 :: c195 :: c196 :: c197 :: c198 :: c199 :: c200 :: c201 :: c202 :: c203 :: c204 :: c205 :: c206 :: c207 :: c208 :: c209 :: c210 :: c211 :: c212 :: c213 :: c214 :: c215 :: c216 :: c217 :: c218 :: c219 :: c220 :: c221 :: c222 :: c223 :: c224 :: c225 :: c226 :: c227 :: c228 :: c229 :: c230 :: c231 :: c232 :: c233 :: c234 :: c235 :: c236 :: c237 :: c238 :: c239 :: c240 :: c241 :: c242 :: c243 :: c244 :: c245 :: c246 :: c247 :: c248 :: c249 :: c250 :: c251 :: c252 :: c253 :: c254 :: c255 :: c256 :: c257 :: c258 :: c259 :: c260 :: c261 :: c262 :: c263 :: c264 :: c265 :: c266 :: c267 :: c268 :: c269 :: c270 :: c271 :: c272 :: c273 :: c274 :: c275 :: c276 :: c277 :: c278 :: c279 :: u280 :: u281 :: u282 :: u283 :: u284 :: u285 :: u286 :: u287 :: u288 :: u289 :: u290 :: u291 :: u292 :: u293 :: u294 :: u295 :: u296 :: u297 :: u298 :: u299 :: u300 :: u301 :: u302 :: u303 :: u304 :: u305 :: u306 :: u307 :: u308 :: u309 :: u310 :: u311 :: u312 :: u313 :: u314 :: u315 :: u316 :: u317 :: u318 :: u319 :: u320 :: u321 :: u322 :: u323 :: u324 :: u325 :: u326 :: u327 :: u328 :: u329 :: u330 :: u331 :: u332 :: u333 :: u334 :: u335 :: u336 :: u337 :: u338 :: u339 :: u340 :: u341 :: u342 :: u343 :: u344 :: u345 :: u346 :: u347 :: u348 :: c349 :: c350 :: c351 :: c352 :: c353 :: c354 :: c355 :: c356 :: c357 :: c358 :: c359 :: c360 :: c361 :: c362 :: c363 :: c364 :: c365 :: c366 :: c367 :: c368 :: c369 :: c370 :: c371 :: c372 :: c373 :: c374 :: c375 :: c376 :: c377 :: c378 :: c379 :: c380 :: c381 :: c382 :: c383 :: c384 :: c385 :: c386 :: c387 :: c388 :: c389 :: c390 :: c391 :: c392 :: c393 :: c394 :: c395 :: c396 :: c397 :: c398 :: c399 :: c400 :: c401 :: c402 :: c403 :: c404 :: c405 :: c406 :: c407 :: c408 :: c409 :: c410 :: c411 :: c412 :: c413 :: c414 :: c415 :: c416 :: c417 :: c418 :: c419 :: c420 :: c421 :: c422 :: c423 :: c424 :: c425 :: c426 :: c427 :: c428 :: c429 :: c430 :: c431 :: c432 :: c433 :: c434 :: c435 :: c436 :: c437 :: c438 :: c439 :: c440 :: c441 :: c442 :: c443 :: c444 :: c445 :: c446 :: c447 :: c448 :: c449 :: c450 :: c451 :: c452 :: c453 :: c454 :: c455 :: c456 :: c457 :: c458 :: c459 :: c460 :: c461 :: c462 :: c463 :: c464 :: c465 :: c466 :: c467 :: c468 :: c469 :: c470 :: c471 :: c472 :: c473 :: c474 :: c475 :: c476 :: c477 :: c478 :: c479 :: c480 :: c481 :: c482 :: c483 :: c484 :: c485 :: c486 :: []).toArray,[]⟩ w') :
 Code.wp Tryz.prog (Code.loop (((Tryz.f4.body.map Q3c).getD []).getD 3 .skip)) Q ⟨(c0 :: .pointer (some ⟨k.g,0,none⟩) :: c2 :: c3 :: c4 :: c5 :: c6 :: c7 :: c8 :: c9 :: c10 :: c11 :: c12 :: c13 :: c14 :: c15 :: c16 :: c17 :: c18 :: c19 :: c20 :: c21 :: c22 :: .pointer (some ⟨V3.g,0,none⟩) :: c24 :: .int .i64 0 :: .int .i64 0 :: c27 :: c28 :: c29 :: c30 :: c31 :: c32 :: c33 :: c34 :: c35 :: c36 :: c37 :: c38 :: c39 :: c40 :: c41 :: c42 :: c43 :: c44 :: c45 :: c46 :: c47 :: c48 :: c49 :: c50 :: c51 :: c52 :: c53 :: c54 :: c55 :: c56 :: c57 :: c58 :: c59 :: c60 :: c61 :: c62 :: c63 :: c64 :: c65 :: c66 :: c67 :: c68 :: c69 :: c70 :: c71 :: c72 :: c73 :: c74 :: c75 :: c76 :: c77 :: c78 :: c79 :: c80 :: c81 :: c82 :: c83 :: c84 :: c85 :: c86 :: c87 :: c88 :: c89 :: c90 :: c91 :: c92 :: c93 :: c94 :: c95 :: c96 :: c97 :: c98 :: c99 :: c100 :: c101 :: c102 :: c103 :: c104 :: c105 :: c106 :: c107 :: c108 :: c109 :: c110 :: c111 :: c112 :: c113 :: c114 :: c115 :: c116 :: c117 :: c118 :: c119 :: c120 :: c121 :: c122 :: c123 :: c124 :: c125 :: c126 :: c127 :: c128 :: c129 :: c130 :: c131 :: c132 :: c133 :: c134 :: c135 :: c136 :: c137 :: c138 :: c139 :: c140 :: c141 :: c142 :: c143 :: c144 :: c145 :: c146 :: c147 :: c148 :: c149 :: c150 :: c151 :: c152 :: c153 :: c154 :: c155 :: c156 :: c157 :: c158 :: c159 :: c160 :: c161 :: c162 :: c163 :: c164 :: c165 :: c166 :: c167 :: c168 :: c169 :: c170 :: c171 :: c172 :: c173 :: c174 :: c175 :: c176 :: c177 :: c178 :: c179 :: c180 :: c181 :: c182 :: c183 :: c184 :: c185 :: c186 :: c187 :: c188 :: c189 :: c190 :: c191 :: c192 :: c193 :: c194 :: c195 :: c196 :: c197 :: c198 :: c199 :: c200 :: c201 :: c202 :: c203 :: c204 :: c205 :: c206 :: c207 :: c208 :: c209 :: c210 :: c211 :: c212 :: c213 :: c214 :: c215 :: c216 :: c217 :: c218 :: c219 :: c220 :: c221 :: c222 :: c223 :: c224 :: c225 :: c226 :: c227 :: c228 :: c229 :: c230 :: c231 :: c232 :: c233 :: c234 :: c235 :: c236 :: c237 :: c238 :: c239 :: c240 :: c241 :: c242 :: c243 :: c244 :: c245 :: c246 :: c247 :: c248 :: c249 :: c250 :: c251 :: c252 :: c253 :: c254 :: c255 :: c256 :: c257 :: c258 :: c259 :: c260 :: c261 :: c262 :: c263 :: c264 :: c265 :: c266 :: c267 :: c268 :: c269 :: c270 :: c271 :: c272 :: c273 :: c274 :: c275 :: c276 :: c277 :: c278 :: c279 :: c280 :: c281 :: c282 :: c283 :: c284 :: c285 :: c286 :: c287 :: c288 :: c289 :: c290 :: c291 :: c292 :: c293 :: c294 :: c295 :: c296 :: c297 :: c298 :: c299 :: c300 :: c301 :: c302 :: c303 :: c304 :: c305 :: c306 :: c307 :: c308 :: c309 :: c310 :: c311 :: c312 :: c313 :: c314 :: c315 :: c316 :: c317 :: c318 :: c319 :: c320 :: c321 :: c322 :: c323 :: c324 :: c325 :: c326 :: c327 :: c328 :: c329 :: c330 :: c331 :: c332 :: c333 :: c334 :: c335 :: c336 :: c337 :: c338 :: c339 :: c340 :: c341 :: c342 :: c343 :: c344 :: c345 :: c346 :: c347 :: c348 :: c349 :: c350 :: c351 :: c352 :: c353 :: c354 :: c355 :: c356 :: c357 :: c358 :: c359 :: c360 :: c361 :: c362 :: c363 :: c364 :: c365 :: c366 :: c367 :: c368 :: c369 :: c370 :: c371 :: c372 :: c373 :: c374 :: c375 :: c376 :: c377 :: c378 :: c379 :: c380 :: c381 :: c382 :: c383 :: c384 :: c385 :: c386 :: c387 :: c388 :: c389 :: c390 :: c391 :: c392 :: c393 :: c394 :: c395 :: c396 :: c397 :: c398 :: c399 :: c400 :: c401 :: c402 :: c403 :: c404 :: c405 :: c406 :: c407 :: c408 :: c409 :: c410 :: c411 :: c412 :: c413 :: c414 :: c415 :: c416 :: c417 :: c418 :: c419 :: c420 :: c421 :: c422 :: c423 :: c424 :: c425 :: c426 :: c427 :: c428 :: c429 :: c430 :: c431 :: c432 :: c433 :: c434 :: c435 :: c436 :: c437 :: c438 :: c439 :: c440 :: c441 :: c442 :: c443 :: c444 :: c445 :: c446 :: c447 :: c448 :: c449 :: c450 :: c451 :: c452 :: c453 :: c454 :: c455 :: c456 :: c457 :: c458 :: c459 :: c460 :: c461 :: c462 :: c463 :: c464 :: c465 :: c466 :: c467 :: c468 :: c469 :: c470 :: c471 :: c472 :: c473 :: c474 :: c475 :: c476 :: c477 :: c478 :: c479 :: c480 :: c481 :: c482 :: c483 :: c484 :: c485 :: c486 :: []).toArray,[]⟩ wr:=by
 conv=>arg 2; arg 1; whnf
 go_loopw [25,26] (fun bv iv wr=>∃ i:Nat,i<=11/\bv=.int .i64 i/\iv=.int .i64 i/\ASt w k V3 ak0 600 wr) (fun _ iv _=>11 - (intOf iv).toNat)
 case atStart=>exact⟨0,by omega,rfl,rfl,HS3.out⟩
 obtain⟨i,hi,rfl,rfl,hst⟩:=hrel;have HS:=sH hst;clear hst HS3;by_cases hin:i<11
 ·skip;have hinI:(i:Int)<11:=by omega
  go_wp2_with fail
  refine(HS.out.leaves).mono ?_;rintro _ x1 ⟨v,vs,rfl,hol,hb⟩;obtain⟨gl,cap,cur,hv,hgl,hcap,hlv⟩:=hol.lvm (by rw [Q2H]; omega);rw [Q2H] at hv hcap;subst hv;have HS1:=sH (HS.out.below hb);have HLV:=sH hlv;have hsx:=hb.size;have HBX:=sH hb;clear hol hlv hb;obtain rfl | rfl | rfl | rfl | rfl | rfl | rfl | rfl | rfl | rfl | rfl:i=0\/i=1\/i=2\/i=3\/i=4\/i=5\/i=6\/i=7\/i=8\/i=9\/i=10:=by omega
  ·have hcp:(5:Int)<=(cap:Int):=by omega
   have hcp2:¬ (cap:Int)<5:=by omega
   go_upto_region 76 with fail
   have HRC:=sH (show Q2L x1 x1.heap.size (some ⟨gl,0,none⟩) 5 (Q26 0) from(by have h:=HLV.out.rowsC;rw [Q2H] at h;exact h.take (by omega)))
   clear HLV HBX hcp hcp2;go_wp2_with fail
   refine(HS1.out.openBad (by omega) (some ⟨gl,0,none⟩) 5 cap (Q26 0) HRC.out (by omega) (Q1d 0 (by omega)) (Q3f 0 (by omega))).mono ?_;rintro _ x3 ⟨rfl,hb3⟩;have HS3:=sH (HS1.out.below hb3);clear hb3 HS1 HRC;go_wp2_with fail
   go_roundw
   case rel=>exact⟨1,by omega,rfl,rfl,HS3.out⟩
   case measure=>simp [intOf]
  ·have hbl:=Q02 x1 (.cells #[.int .u8 0] 5);have hlv2:=HLV.out.below hbl;obtain⟨Ak,mk,ck,h12c,_⟩:=hlv2.at_ 0 ((Q07 ak0).getD 0 []) (by kernel_rfl);have cc:=hlv2.blk.cell 0;rw [h12c] at cc;have ff:=hlv2.blk.frozen 0;have hr7:Q04 (x1.alloc (.cells #[.int .u8 0] 5)) (x1.alloc (.cells #[.int .u8 0] 5)).heap.size 1 (some ⟨x1.heap.size,0,none⟩) 1 (([0]:List UInt8).map vb):=by
    have h:=Q0l x1 #[.int .u8 0] 5;rw [show (x1.alloc (.cells #[.int .u8 0] 5)).heap.size=x1.heap.size+1 by simp];exact h
   have hset:=hlv2.set 0 (some ⟨x1.heap.size,0,none⟩) 1 1 [0] hr7 (by omega) (fun a ha e=>by
    injection ha with ha
    subst ha;have:=HLV.out.blk.lt;simp only at e;omega)
   have HSET:=sH hset;have hb2:=(Q06.setCell (x1.alloc (.cells #[.int .u8 0] 5)) ⟨gl,0,none⟩ (.slice (some ⟨x1.heap.size,0,none⟩) 1 1)).below (HBX.out.trans (hbl.mono hsx)) hgl;have HS2:=sH (HS.out.below hb2);clear hlv2 h12c hr7 hset hb2 hbl HS1;go_upto_region 76 with fail
   clear cc ff;generalize World.setCell _ ⟨gl,0,none⟩ _=x2 at HSET HS2 ⊢;have HRC:=sH (show Q2L x2 x2.heap.size (some ⟨gl,0,none⟩) 6 (Q26 1) from by have h:=HSET.out.rowsC;rw [zC,Q2H] at h;exact h)
   clear HSET HLV HBX;go_wp2_with fail
   refine(HS2.out.openBad (by omega) (some ⟨gl,0,none⟩) 6 cap (Q26 1) HRC.out (by omega) (Q1d 1 (by omega)) (Q3f 1 (by omega))).mono ?_;rintro _ x3 ⟨rfl,hb3⟩;have HS3:=sH (HS2.out.below hb3);clear hb3 HS2 HRC;go_wp2_with fail
   go_roundw
   case rel=>exact⟨2,by omega,rfl,rfl,HS3.out⟩
   case measure=>simp [intOf]
  ·have hbl:=Q02 x1 (.cells #[.int .u8 0,.int .u8 0] 5);have hlv2:=HLV.out.below hbl;obtain⟨Ak,mk,ck,h12c,_⟩:=hlv2.at_ 1 ((Q07 ak0).getD 1 []) (by kernel_rfl);have cc:=hlv2.blk.cell 1;rw [h12c] at cc;have ff:=hlv2.blk.frozen 1;have hr7:Q04 (x1.alloc (.cells #[.int .u8 0,.int .u8 0] 5)) (x1.alloc (.cells #[.int .u8 0,.int .u8 0] 5)).heap.size 1 (some ⟨x1.heap.size,0,none⟩) 2 (([0,0]:List UInt8).map vb):=by
    have h:=Q0l x1 #[.int .u8 0,.int .u8 0] 5;rw [show (x1.alloc (.cells #[.int .u8 0,.int .u8 0] 5)).heap.size=x1.heap.size+1 by simp];exact h
   have hset:=hlv2.set 1 (some ⟨x1.heap.size,0,none⟩) 2 2 [0,0] hr7 (by omega) (fun a ha e=>by
    injection ha with ha
    subst ha;have:=HLV.out.blk.lt;simp only at e;omega)
   have HSET:=sH hset;have hb2:=(Q06.setCell (x1.alloc (.cells #[.int .u8 0,.int .u8 0] 5)) ⟨gl,1,none⟩ (.slice (some ⟨x1.heap.size,0,none⟩) 2 2)).below (HBX.out.trans (hbl.mono hsx)) hgl;have HS2:=sH (HS.out.below hb2);clear hlv2 h12c hr7 hset hb2 hbl HS1;go_upto_region 76 with fail
   clear cc ff;generalize World.setCell _ ⟨gl,1,none⟩ _=x2 at HSET HS2 ⊢;have HRC:=sH (show Q2L x2 x2.heap.size (some ⟨gl,0,none⟩) 6 (Q26 2) from by have h:=HSET.out.rowsC;rw [zC,Q2H] at h;exact h)
   clear HSET HLV HBX;go_wp2_with fail
   refine(HS2.out.openBad (by omega) (some ⟨gl,0,none⟩) 6 cap (Q26 2) HRC.out (by omega) (Q1d 2 (by omega)) (Q3f 2 (by omega))).mono ?_;rintro _ x3 ⟨rfl,hb3⟩;have HS3:=sH (HS2.out.below hb3);clear hb3 HS2 HRC;go_wp2_with fail
   go_roundw
   case rel=>exact⟨3,by omega,rfl,rfl,HS3.out⟩
   case measure=>simp [intOf]
  ·have hbl:=Q02 x1 (.cells #[.int .u8 1,.int .u8 2,.int .u8 1,.int .u8 1,.int .u8 1,.int .u8 5,.int .u8 1,.int .u8 6,.int .u8 1,.int .u8 7,.int .u8 1,.int .u8 8] 5);have hlv2:=HLV.out.below hbl;obtain⟨Ak,mk,ck,h12c,_⟩:=hlv2.at_ 0 ((Q07 ak0).getD 0 []) (by kernel_rfl);have cc:=hlv2.blk.cell 0;rw [h12c] at cc;have ff:=hlv2.blk.frozen 0;have hr7:Q04 (x1.alloc (.cells #[.int .u8 1,.int .u8 2,.int .u8 1,.int .u8 1,.int .u8 1,.int .u8 5,.int .u8 1,.int .u8 6,.int .u8 1,.int .u8 7,.int .u8 1,.int .u8 8] 5)) (x1.alloc (.cells #[.int .u8 1,.int .u8 2,.int .u8 1,.int .u8 1,.int .u8 1,.int .u8 5,.int .u8 1,.int .u8 6,.int .u8 1,.int .u8 7,.int .u8 1,.int .u8 8] 5)).heap.size 1 (some ⟨x1.heap.size,0,none⟩) 12 (([1,2,1,1,1,5,1,6,1,7,1,8]:List UInt8).map vb):=by
    have h:=Q0l x1 #[.int .u8 1,.int .u8 2,.int .u8 1,.int .u8 1,.int .u8 1,.int .u8 5,.int .u8 1,.int .u8 6,.int .u8 1,.int .u8 7,.int .u8 1,.int .u8 8] 5;rw [show (x1.alloc (.cells #[.int .u8 1,.int .u8 2,.int .u8 1,.int .u8 1,.int .u8 1,.int .u8 5,.int .u8 1,.int .u8 6,.int .u8 1,.int .u8 7,.int .u8 1,.int .u8 8] 5)).heap.size=x1.heap.size+1 by simp];exact h
   have hset:=hlv2.set 0 (some ⟨x1.heap.size,0,none⟩) 12 12 [1,2,1,1,1,5,1,6,1,7,1,8] hr7 (by omega) (fun a ha e=>by
    injection ha with ha
    subst ha;have:=HLV.out.blk.lt;simp only at e;omega)
   have HSET:=sH hset;have hb2:=(Q06.setCell (x1.alloc (.cells #[.int .u8 1,.int .u8 2,.int .u8 1,.int .u8 1,.int .u8 1,.int .u8 5,.int .u8 1,.int .u8 6,.int .u8 1,.int .u8 7,.int .u8 1,.int .u8 8] 5)) ⟨gl,0,none⟩ (.slice (some ⟨x1.heap.size,0,none⟩) 12 12)).below (HBX.out.trans (hbl.mono hsx)) hgl;have HS2:=sH (HS.out.below hb2);clear hlv2 h12c hr7 hset hb2 hbl HS1;go_upto_region 76 with fail
   clear cc ff;generalize World.setCell _ ⟨gl,0,none⟩ _=x2 at HSET HS2 ⊢;have HRC:=sH (show Q2L x2 x2.heap.size (some ⟨gl,0,none⟩) 6 (Q26 3) from by have h:=HSET.out.rowsC;rw [zC,Q2H] at h;exact h)
   clear HSET HLV HBX;go_wp2_with fail
   refine(HS2.out.openBad (by omega) (some ⟨gl,0,none⟩) 6 cap (Q26 3) HRC.out (by omega) (Q1d 3 (by omega)) (Q3f 3 (by omega))).mono ?_;rintro _ x3 ⟨rfl,hb3⟩;have HS3:=sH (HS2.out.below hb3);clear hb3 HS2 HRC;go_wp2_with fail
   go_roundw
   case rel=>exact⟨4,by omega,rfl,rfl,HS3.out⟩
   case measure=>simp [intOf]
  ·have hbl:=Q02 x1 (.cells #[.int .u8 1,.int .u8 2,.int .u8 1,.int .u8 1,.int .u8 1,.int .u8 5,.int .u8 1,.int .u8 6,.int .u8 1,.int .u8 7,.int .u8 1,.int .u8 8,.int .u8 1,.int .u8 9,.int .u8 1,.int .u8 13] 5);have hlv2:=HLV.out.below hbl;obtain⟨Ak,mk,ck,h12c,_⟩:=hlv2.at_ 0 ((Q07 ak0).getD 0 []) (by kernel_rfl);have cc:=hlv2.blk.cell 0;rw [h12c] at cc;have ff:=hlv2.blk.frozen 0;have hr7:Q04 (x1.alloc (.cells #[.int .u8 1,.int .u8 2,.int .u8 1,.int .u8 1,.int .u8 1,.int .u8 5,.int .u8 1,.int .u8 6,.int .u8 1,.int .u8 7,.int .u8 1,.int .u8 8,.int .u8 1,.int .u8 9,.int .u8 1,.int .u8 13] 5)) (x1.alloc (.cells #[.int .u8 1,.int .u8 2,.int .u8 1,.int .u8 1,.int .u8 1,.int .u8 5,.int .u8 1,.int .u8 6,.int .u8 1,.int .u8 7,.int .u8 1,.int .u8 8,.int .u8 1,.int .u8 9,.int .u8 1,.int .u8 13] 5)).heap.size 1 (some ⟨x1.heap.size,0,none⟩) 16 (([1,2,1,1,1,5,1,6,1,7,1,8,1,9,1,13]:List UInt8).map vb):=by
    have h:=Q0l x1 #[.int .u8 1,.int .u8 2,.int .u8 1,.int .u8 1,.int .u8 1,.int .u8 5,.int .u8 1,.int .u8 6,.int .u8 1,.int .u8 7,.int .u8 1,.int .u8 8,.int .u8 1,.int .u8 9,.int .u8 1,.int .u8 13] 5;rw [show (x1.alloc (.cells #[.int .u8 1,.int .u8 2,.int .u8 1,.int .u8 1,.int .u8 1,.int .u8 5,.int .u8 1,.int .u8 6,.int .u8 1,.int .u8 7,.int .u8 1,.int .u8 8,.int .u8 1,.int .u8 9,.int .u8 1,.int .u8 13] 5)).heap.size=x1.heap.size+1 by simp];exact h
   have hset:=hlv2.set 0 (some ⟨x1.heap.size,0,none⟩) 16 16 [1,2,1,1,1,5,1,6,1,7,1,8,1,9,1,13] hr7 (by omega) (fun a ha e=>by
    injection ha with ha
    subst ha;have:=HLV.out.blk.lt;simp only at e;omega)
   have HSET:=sH hset;have hb2:=(Q06.setCell (x1.alloc (.cells #[.int .u8 1,.int .u8 2,.int .u8 1,.int .u8 1,.int .u8 1,.int .u8 5,.int .u8 1,.int .u8 6,.int .u8 1,.int .u8 7,.int .u8 1,.int .u8 8,.int .u8 1,.int .u8 9,.int .u8 1,.int .u8 13] 5)) ⟨gl,0,none⟩ (.slice (some ⟨x1.heap.size,0,none⟩) 16 16)).below (HBX.out.trans (hbl.mono hsx)) hgl;have HS2:=sH (HS.out.below hb2);clear hlv2 h12c hr7 hset hb2 hbl HS1;go_upto_region 76 with fail
   clear cc ff;generalize World.setCell _ ⟨gl,0,none⟩ _=x2 at HSET HS2 ⊢;have HRC:=sH (show Q2L x2 x2.heap.size (some ⟨gl,0,none⟩) 6 (Q26 4) from by have h:=HSET.out.rowsC;rw [zC,Q2H] at h;exact h)
   clear HSET HLV HBX;go_wp2_with fail
   refine(HS2.out.openBad (by omega) (some ⟨gl,0,none⟩) 6 cap (Q26 4) HRC.out (by omega) (Q1d 4 (by omega)) (Q3f 4 (by omega))).mono ?_;rintro _ x3 ⟨rfl,hb3⟩;have HS3:=sH (HS2.out.below hb3);clear hb3 HS2 HRC;go_wp2_with fail
   go_roundw
   case rel=>exact⟨5,by omega,rfl,rfl,HS3.out⟩
   case measure=>simp [intOf]
  ·have hbl:=Q02 x1 (.cells #[.int .u8 1,.int .u8 2,.int .u8 1,.int .u8 1,.int .u8 1,.int .u8 5,.int .u8 1,.int .u8 6,.int .u8 1,.int .u8 7,.int .u8 1,.int .u8 8,.int .u8 1,.int .u8 5,.int .u8 1,.int .u8 12] 5);have hlv2:=HLV.out.below hbl;obtain⟨Ak,mk,ck,h12c,_⟩:=hlv2.at_ 0 ((Q07 ak0).getD 0 []) (by kernel_rfl);have cc:=hlv2.blk.cell 0;rw [h12c] at cc;have ff:=hlv2.blk.frozen 0;have hr7:Q04 (x1.alloc (.cells #[.int .u8 1,.int .u8 2,.int .u8 1,.int .u8 1,.int .u8 1,.int .u8 5,.int .u8 1,.int .u8 6,.int .u8 1,.int .u8 7,.int .u8 1,.int .u8 8,.int .u8 1,.int .u8 5,.int .u8 1,.int .u8 12] 5)) (x1.alloc (.cells #[.int .u8 1,.int .u8 2,.int .u8 1,.int .u8 1,.int .u8 1,.int .u8 5,.int .u8 1,.int .u8 6,.int .u8 1,.int .u8 7,.int .u8 1,.int .u8 8,.int .u8 1,.int .u8 5,.int .u8 1,.int .u8 12] 5)).heap.size 1 (some ⟨x1.heap.size,0,none⟩) 16 (([1,2,1,1,1,5,1,6,1,7,1,8,1,5,1,12]:List UInt8).map vb):=by
    have h:=Q0l x1 #[.int .u8 1,.int .u8 2,.int .u8 1,.int .u8 1,.int .u8 1,.int .u8 5,.int .u8 1,.int .u8 6,.int .u8 1,.int .u8 7,.int .u8 1,.int .u8 8,.int .u8 1,.int .u8 5,.int .u8 1,.int .u8 12] 5;rw [show (x1.alloc (.cells #[.int .u8 1,.int .u8 2,.int .u8 1,.int .u8 1,.int .u8 1,.int .u8 5,.int .u8 1,.int .u8 6,.int .u8 1,.int .u8 7,.int .u8 1,.int .u8 8,.int .u8 1,.int .u8 5,.int .u8 1,.int .u8 12] 5)).heap.size=x1.heap.size+1 by simp];exact h
   have hset:=hlv2.set 0 (some ⟨x1.heap.size,0,none⟩) 16 16 [1,2,1,1,1,5,1,6,1,7,1,8,1,5,1,12] hr7 (by omega) (fun a ha e=>by
    injection ha with ha
    subst ha;have:=HLV.out.blk.lt;simp only at e;omega)
   have HSET:=sH hset;have hb2:=(Q06.setCell (x1.alloc (.cells #[.int .u8 1,.int .u8 2,.int .u8 1,.int .u8 1,.int .u8 1,.int .u8 5,.int .u8 1,.int .u8 6,.int .u8 1,.int .u8 7,.int .u8 1,.int .u8 8,.int .u8 1,.int .u8 5,.int .u8 1,.int .u8 12] 5)) ⟨gl,0,none⟩ (.slice (some ⟨x1.heap.size,0,none⟩) 16 16)).below (HBX.out.trans (hbl.mono hsx)) hgl;have HS2:=sH (HS.out.below hb2);clear hlv2 h12c hr7 hset hb2 hbl HS1;go_upto_region 76 with fail
   clear cc ff;generalize World.setCell _ ⟨gl,0,none⟩ _=x2 at HSET HS2 ⊢;have HRC:=sH (show Q2L x2 x2.heap.size (some ⟨gl,0,none⟩) 6 (Q26 5) from by have h:=HSET.out.rowsC;rw [zC,Q2H] at h;exact h)
   clear HSET HLV HBX;go_wp2_with fail
   refine(HS2.out.openBad (by omega) (some ⟨gl,0,none⟩) 6 cap (Q26 5) HRC.out (by omega) (Q1d 5 (by omega)) (Q3f 5 (by omega))).mono ?_;rintro _ x3 ⟨rfl,hb3⟩;have HS3:=sH (HS2.out.below hb3);clear hb3 HS2 HRC;go_wp2_with fail
   go_roundw
   case rel=>exact⟨6,by omega,rfl,rfl,HS3.out⟩
   case measure=>simp [intOf]
  ·have hbl:=Q02 x1 (.cells #[.int .u8 0,.int .u8 0,.int .u8 0,.int .u8 1,.int .u8 1,.int .u8 1,.int .u8 5] 5);have hlv2:=HLV.out.below hbl;obtain⟨Ak,mk,ck,h12c,_⟩:=hlv2.at_ 2 ((Q07 ak0).getD 2 []) (by kernel_rfl);have cc:=hlv2.blk.cell 2;rw [h12c] at cc;have ff:=hlv2.blk.frozen 2;have hr7:Q04 (x1.alloc (.cells #[.int .u8 0,.int .u8 0,.int .u8 0,.int .u8 1,.int .u8 1,.int .u8 1,.int .u8 5] 5)) (x1.alloc (.cells #[.int .u8 0,.int .u8 0,.int .u8 0,.int .u8 1,.int .u8 1,.int .u8 1,.int .u8 5] 5)).heap.size 1 (some ⟨x1.heap.size,0,none⟩) 7 (([0,0,0,1,1,1,5]:List UInt8).map vb):=by
    have h:=Q0l x1 #[.int .u8 0,.int .u8 0,.int .u8 0,.int .u8 1,.int .u8 1,.int .u8 1,.int .u8 5] 5;rw [show (x1.alloc (.cells #[.int .u8 0,.int .u8 0,.int .u8 0,.int .u8 1,.int .u8 1,.int .u8 1,.int .u8 5] 5)).heap.size=x1.heap.size+1 by simp];exact h
   have hset:=hlv2.set 2 (some ⟨x1.heap.size,0,none⟩) 7 7 [0,0,0,1,1,1,5] hr7 (by omega) (fun a ha e=>by
    injection ha with ha
    subst ha;have:=HLV.out.blk.lt;simp only at e;omega)
   have HSET:=sH hset;have hb2:=(Q06.setCell (x1.alloc (.cells #[.int .u8 0,.int .u8 0,.int .u8 0,.int .u8 1,.int .u8 1,.int .u8 1,.int .u8 5] 5)) ⟨gl,2,none⟩ (.slice (some ⟨x1.heap.size,0,none⟩) 7 7)).below (HBX.out.trans (hbl.mono hsx)) hgl;have HS2:=sH (HS.out.below hb2);clear hlv2 h12c hr7 hset hb2 hbl HS1;go_upto_region 76 with fail
   clear cc ff;generalize World.setCell _ ⟨gl,2,none⟩ _=x2 at HSET HS2 ⊢;have HRC:=sH (show Q2L x2 x2.heap.size (some ⟨gl,0,none⟩) 6 (Q26 6) from by have h:=HSET.out.rowsC;rw [zC,Q2H] at h;exact h)
   clear HSET HLV HBX;go_wp2_with fail
   refine(HS2.out.openBad (by omega) (some ⟨gl,0,none⟩) 6 cap (Q26 6) HRC.out (by omega) (Q1d 6 (by omega)) (Q3f 6 (by omega))).mono ?_;rintro _ x3 ⟨rfl,hb3⟩;have HS3:=sH (HS2.out.below hb3);clear hb3 HS2 HRC;go_wp2_with fail
   go_roundw
   case rel=>exact⟨7,by omega,rfl,rfl,HS3.out⟩
   case measure=>simp [intOf]
  ·have hbl:=Q02 x1 (.cells #[.int .u8 1,.int .u8 1,.int .u8 1,.int .u8 2,.int .u8 0,.int .u8 0] 5);have hlv2:=HLV.out.below hbl;obtain⟨Ak,mk,ck,h12c,_⟩:=hlv2.at_ 2 ((Q07 ak0).getD 2 []) (by kernel_rfl);have cc:=hlv2.blk.cell 2;rw [h12c] at cc;have ff:=hlv2.blk.frozen 2;have hr7:Q04 (x1.alloc (.cells #[.int .u8 1,.int .u8 1,.int .u8 1,.int .u8 2,.int .u8 0,.int .u8 0] 5)) (x1.alloc (.cells #[.int .u8 1,.int .u8 1,.int .u8 1,.int .u8 2,.int .u8 0,.int .u8 0] 5)).heap.size 1 (some ⟨x1.heap.size,0,none⟩) 6 (([1,1,1,2,0,0]:List UInt8).map vb):=by
    have h:=Q0l x1 #[.int .u8 1,.int .u8 1,.int .u8 1,.int .u8 2,.int .u8 0,.int .u8 0] 5;rw [show (x1.alloc (.cells #[.int .u8 1,.int .u8 1,.int .u8 1,.int .u8 2,.int .u8 0,.int .u8 0] 5)).heap.size=x1.heap.size+1 by simp];exact h
   have hset:=hlv2.set 2 (some ⟨x1.heap.size,0,none⟩) 6 6 [1,1,1,2,0,0] hr7 (by omega) (fun a ha e=>by
    injection ha with ha
    subst ha;have:=HLV.out.blk.lt;simp only at e;omega)
   have HSET:=sH hset;have hb2:=(Q06.setCell (x1.alloc (.cells #[.int .u8 1,.int .u8 1,.int .u8 1,.int .u8 2,.int .u8 0,.int .u8 0] 5)) ⟨gl,2,none⟩ (.slice (some ⟨x1.heap.size,0,none⟩) 6 6)).below (HBX.out.trans (hbl.mono hsx)) hgl;have HS2:=sH (HS.out.below hb2);clear hlv2 h12c hr7 hset hb2 hbl HS1;go_upto_region 76 with fail
   clear cc ff;generalize World.setCell _ ⟨gl,2,none⟩ _=x2 at HSET HS2 ⊢;have HRC:=sH (show Q2L x2 x2.heap.size (some ⟨gl,0,none⟩) 6 (Q26 7) from by have h:=HSET.out.rowsC;rw [zC,Q2H] at h;exact h)
   clear HSET HLV HBX;go_wp2_with fail
   refine(HS2.out.openBad (by omega) (some ⟨gl,0,none⟩) 6 cap (Q26 7) HRC.out (by omega) (Q1d 7 (by omega)) (Q3f 7 (by omega))).mono ?_;rintro _ x3 ⟨rfl,hb3⟩;have HS3:=sH (HS2.out.below hb3);clear hb3 HS2 HRC;go_wp2_with fail
   go_roundw
   case rel=>exact⟨8,by omega,rfl,rfl,HS3.out⟩
   case measure=>simp [intOf]
  ·have hbl:=Q02 x1 (.cells #[.int .u8 1,.int .u8 1,.int .u8 0,.int .u8 1,.int .u8 22,.int .u8 0] 5);have hlv2:=HLV.out.below hbl;obtain⟨Ak,mk,ck,h12c,_⟩:=hlv2.at_ 2 ((Q07 ak0).getD 2 []) (by kernel_rfl);have cc:=hlv2.blk.cell 2;rw [h12c] at cc;have ff:=hlv2.blk.frozen 2;have hr7:Q04 (x1.alloc (.cells #[.int .u8 1,.int .u8 1,.int .u8 0,.int .u8 1,.int .u8 22,.int .u8 0] 5)) (x1.alloc (.cells #[.int .u8 1,.int .u8 1,.int .u8 0,.int .u8 1,.int .u8 22,.int .u8 0] 5)).heap.size 1 (some ⟨x1.heap.size,0,none⟩) 6 (([1,1,0,1,22,0]:List UInt8).map vb):=by
    have h:=Q0l x1 #[.int .u8 1,.int .u8 1,.int .u8 0,.int .u8 1,.int .u8 22,.int .u8 0] 5;rw [show (x1.alloc (.cells #[.int .u8 1,.int .u8 1,.int .u8 0,.int .u8 1,.int .u8 22,.int .u8 0] 5)).heap.size=x1.heap.size+1 by simp];exact h
   have hset:=hlv2.set 2 (some ⟨x1.heap.size,0,none⟩) 6 6 [1,1,0,1,22,0] hr7 (by omega) (fun a ha e=>by
    injection ha with ha
    subst ha;have:=HLV.out.blk.lt;simp only at e;omega)
   have HSET:=sH hset;have hb2:=(Q06.setCell (x1.alloc (.cells #[.int .u8 1,.int .u8 1,.int .u8 0,.int .u8 1,.int .u8 22,.int .u8 0] 5)) ⟨gl,2,none⟩ (.slice (some ⟨x1.heap.size,0,none⟩) 6 6)).below (HBX.out.trans (hbl.mono hsx)) hgl;have HS2:=sH (HS.out.below hb2);clear hlv2 h12c hr7 hset hb2 hbl HS1;go_upto_region 76 with fail
   clear cc ff;generalize World.setCell _ ⟨gl,2,none⟩ _=x2 at HSET HS2 ⊢;have HRC:=sH (show Q2L x2 x2.heap.size (some ⟨gl,0,none⟩) 6 (Q26 8) from by have h:=HSET.out.rowsC;rw [zC,Q2H] at h;exact h)
   clear HSET HLV HBX;go_wp2_with fail
   refine(HS2.out.openBad (by omega) (some ⟨gl,0,none⟩) 6 cap (Q26 8) HRC.out (by omega) (Q1d 8 (by omega)) (Q3f 8 (by omega))).mono ?_;rintro _ x3 ⟨rfl,hb3⟩;have HS3:=sH (HS2.out.below hb3);clear hb3 HS2 HRC;go_wp2_with fail
   go_roundw
   case rel=>exact⟨9,by omega,rfl,rfl,HS3.out⟩
   case measure=>simp [intOf]
  ·have hbl:=Q02 x1 (.cells #[.int .u8 1,.int .u8 1,.int .u8 0,.int .u8 0,.int .u8 1,.int .u8 2,.int .u8 1,.int .u8 5,.int .u8 1,.int .u8 6] 5);have hlv2:=HLV.out.below hbl;obtain⟨Ak,mk,ck,h12c,_⟩:=hlv2.at_ 2 ((Q07 ak0).getD 2 []) (by kernel_rfl);have cc:=hlv2.blk.cell 2;rw [h12c] at cc;have ff:=hlv2.blk.frozen 2;have hr7:Q04 (x1.alloc (.cells #[.int .u8 1,.int .u8 1,.int .u8 0,.int .u8 0,.int .u8 1,.int .u8 2,.int .u8 1,.int .u8 5,.int .u8 1,.int .u8 6] 5)) (x1.alloc (.cells #[.int .u8 1,.int .u8 1,.int .u8 0,.int .u8 0,.int .u8 1,.int .u8 2,.int .u8 1,.int .u8 5,.int .u8 1,.int .u8 6] 5)).heap.size 1 (some ⟨x1.heap.size,0,none⟩) 10 (([1,1,0,0,1,2,1,5,1,6]:List UInt8).map vb):=by
    have h:=Q0l x1 #[.int .u8 1,.int .u8 1,.int .u8 0,.int .u8 0,.int .u8 1,.int .u8 2,.int .u8 1,.int .u8 5,.int .u8 1,.int .u8 6] 5;rw [show (x1.alloc (.cells #[.int .u8 1,.int .u8 1,.int .u8 0,.int .u8 0,.int .u8 1,.int .u8 2,.int .u8 1,.int .u8 5,.int .u8 1,.int .u8 6] 5)).heap.size=x1.heap.size+1 by simp];exact h
   have hset:=hlv2.set 2 (some ⟨x1.heap.size,0,none⟩) 10 10 [1,1,0,0,1,2,1,5,1,6] hr7 (by omega) (fun a ha e=>by
    injection ha with ha
    subst ha;have:=HLV.out.blk.lt;simp only at e;omega)
   have HSET:=sH hset;have hb2:=(Q06.setCell (x1.alloc (.cells #[.int .u8 1,.int .u8 1,.int .u8 0,.int .u8 0,.int .u8 1,.int .u8 2,.int .u8 1,.int .u8 5,.int .u8 1,.int .u8 6] 5)) ⟨gl,2,none⟩ (.slice (some ⟨x1.heap.size,0,none⟩) 10 10)).below (HBX.out.trans (hbl.mono hsx)) hgl;have HS2:=sH (HS.out.below hb2);clear hlv2 h12c hr7 hset hb2 hbl HS1;go_upto_region 76 with fail
   clear cc ff;generalize World.setCell _ ⟨gl,2,none⟩ _=x2 at HSET HS2 ⊢;have HRC:=sH (show Q2L x2 x2.heap.size (some ⟨gl,0,none⟩) 6 (Q26 9) from by have h:=HSET.out.rowsC;rw [zC,Q2H] at h;exact h)
   clear HSET HLV HBX;go_wp2_with fail
   refine(HS2.out.openBad (by omega) (some ⟨gl,0,none⟩) 6 cap (Q26 9) HRC.out (by omega) (Q1d 9 (by omega)) (Q3f 9 (by omega))).mono ?_;rintro _ x3 ⟨rfl,hb3⟩;have HS3:=sH (HS2.out.below hb3);clear hb3 HS2 HRC;go_wp2_with fail
   go_roundw
   case rel=>exact⟨10,by omega,rfl,rfl,HS3.out⟩
   case measure=>simp [intOf]
  have hbl:=Q02 x1 (.cells #[.int .u8 8] 5);have hlv2:=HLV.out.below hbl;obtain⟨Ak,mk,ck,h12c,_⟩:=hlv2.at_ 5 ((Q07 ak0).getD 5 []) (by kernel_rfl);have cc:=hlv2.blk.cell 5;rw [h12c] at cc;have ff:=hlv2.blk.frozen 5;have hr7:Q04 (x1.alloc (.cells #[.int .u8 8] 5)) (x1.alloc (.cells #[.int .u8 8] 5)).heap.size 1 (some ⟨x1.heap.size,0,none⟩) 1 (([8]:List UInt8).map vb):=by have h:=Q0l x1 #[.int .u8 8] 5;rw [show (x1.alloc (.cells #[.int .u8 8] 5)).heap.size=x1.heap.size+1 by simp];exact h
  have hset:=hlv2.set 5 (some ⟨x1.heap.size,0,none⟩) 1 1 [8] hr7 (by omega) (fun a ha e=>by
   injection ha with ha
   subst ha;have:=HLV.out.blk.lt;simp only at e;omega)
  have HSET:=sH hset;have hb2:=(Q06.setCell (x1.alloc (.cells #[.int .u8 8] 5)) ⟨gl,5,none⟩ (.slice (some ⟨x1.heap.size,0,none⟩) 1 1)).below (HBX.out.trans (hbl.mono hsx)) hgl;have HS2:=sH (HS.out.below hb2);clear hlv2 h12c hr7 hset hb2 hbl HS1;go_upto_region 76 with fail
  clear cc ff;generalize World.setCell _ ⟨gl,5,none⟩ _=x2 at HSET HS2 ⊢;have HRC:=sH (show Q2L x2 x2.heap.size (some ⟨gl,0,none⟩) 6 (Q26 10) from by have h:=HSET.out.rowsC;rw [zC,Q2H] at h;exact h)
  clear HSET HLV HBX;go_wp2_with fail
  refine(HS2.out.openBad (by omega) (some ⟨gl,0,none⟩) 6 cap (Q26 10) HRC.out (by omega) (Q1d 10 (by omega)) (Q3f 10 (by omega))).mono ?_;rintro _ x3 ⟨rfl,hb3⟩;have HS3:=sH (HS2.out.below hb3);clear hb3 HS2 HRC;go_wp2_with fail
  go_roundw
  case rel=>exact⟨11,by omega,rfl,rfl,HS3.out⟩
  case measure=>simp [intOf]
 obtain rfl:i=11:=by omega
 clear hin hi;go_wp2_with fail
 exact HS.out
end
section
open Go.RowKit Go.Maps
attribute [local irreducible] wpList Q0c
theorem Qa7 (e1 e2:Int) (A:Option Addr) (n c:Nat) (D:Option Addr) (m d:Nat) (xs ys:List Int) (w:World) (B:Nat) (hx:Q04 w B 1 A n (xs.map vn)) (hy:Q04 w B 1 D m (ys.map vn)) (hB:B<=w.heap.size) (hn:n<=maxLen) (hm:m<=maxLen) :
 Calls Tryz.prog 41 #[.agg (crC e1 A n c),.agg (crC e2 D m d)] w fun e w'=>e=.returned (.bool (decide (e1=e2/\xs=ys)))/\Below w.heap.size w w':=by
 have HEI:=sH (fun W (hb:Below w.heap.size w W)=>Q4w A D n m c d xs ys W B B (hx.below (hb.mono hB)) (hy.below (hb.mono hB)) hn hm);have hX:Below w.heap.size w ((w.alloc (.cells (crC e1 A n c) 69)).alloc (.cells (crC e2 D m d) 69)):=((zB _ _).alloc (zA _) _).alloc (by simp) _;have k1:Blk ((w.alloc (.cells (crC e1 A n c) 69)).alloc (.cells (crC e2 D m d) 69)) w.heap.size 69 (crC e1 A n c):=(Blk.newAt rfl).alloc _;have k2:Blk ((w.alloc (.cells (crC e1 A n c) 69)).alloc (.cells (crC e2 D m d) 69)) (w.heap.size+1) 69 (crC e2 D m d):=Blk.newAt (by simp);have HX:=sH hX;have K1:=sH k1;have K2:=sH k2;obtain⟨C,hC⟩:∃ C,C=crC e1 A n c:=⟨_,rfl⟩;obtain⟨E,hE⟩:∃ E,E=crC e2 D m d:=⟨_,rfl⟩;have c0:C[0]?=some (.int .i64 e1):=by rw [hC]; rfl
 have c1:C[1]?=some (.slice A n c):=by rw [hC]; rfl
 have d0:E[0]?=some (.int .i64 e2):=by rw [hE]; rfl
 have d1:E[1]?=some (.slice D m d):=by rw [hE]; rfl
 rw [<- hC,<- hE] at HX K1 K2 ⊢;have C0:=sH c0;have C1:=sH c1;have D0:=sH d0;have D1:=sH d1;obtain⟨g2,hg2⟩:∃ g,g=w.heap.size:=⟨_,rfl⟩;obtain⟨g3,hg3⟩:∃ g,g=w.heap.size+1:=⟨_,rfl⟩;clear hx hy hX k1 k2 hC hE c0 c1 d0 d1;go_enter Tryz.func41,Tryz.ntmps41
 go_upto_region 1 with fail
 generalize World.alloc (World.alloc w _) _=w1 at HX K1 K2 ⊢;rw [<- hg3] at K2 ⊢;rw [<- hg2] at K1 ⊢;clear hg2 hg3;have e0:=(K1.out.cell 0).trans C0.out;have e1':=(K1.out.cell 1).trans C1.out;have f0:=(K2.out.cell 0).trans D0.out;have f1:=(K2.out.cell 1).trans D1.out;have HE:=sH (HEI.out w1 HX.out);clear K1 K2 HEI;by_cases he:e1=e2
 ·have heb:(e1 == e2)=true:=by simpa using he
  have HH:=sH he;clear he;go_wp2_with fail
  refine HE.out.mono ?_;rintro _ _ ⟨rfl,k,rfl⟩;go_wp2_with fail
  go_ret
  exact⟨Q0C (by simp [HH.out]),Q0B HX.out _⟩
 have heb:(e1 == e2)=false:=by simpa using he
 have HH:=sH he;clear he;go_wp2_with fail
 go_ret
 exact⟨Q0C (by simp [HH.out]),HX.out⟩
end
section
open Go.RowKit Go.Maps
attribute [local irreducible] wpList
theorem atlasKnown_law (w:World) :
 Calls Tryz.prog 4 #[] w fun e w'=>e=.returned (.bool true)/\Below w.heap.size w w':=by
 go_enter Tryz.func4,Tryz.ntmps4
 go_wp2_with fail
 refine(Q6i w).mono ?_;rintro _ w1 ⟨k,rfl,hbk,hkn,hb1⟩;have HBK:=sH hbk;have HB1:=sH hb1;have HKN:=sH hkn;clear hbk hkn hb1;go_wp2_with fail
 refine akLoop1 HBK ?_;intro u4 u5 u6 u52 u53 u54 u55 u56 u57 u58 u59 u60 u61 u62 u63 u64 u65 u66 u67 u68 u69 u70 u71 u72 u73 u74 u75 u76 u77 u78 u79 u80 u81 u82 u83 u84 u85 u86 u87 u88 u89 u90 u91 u92 u93 u94 u95 u96 u97 u98 u99 u100 u101 u102 u103 u104 u105 u106 u107 u108 u109 u110 u111 wr hbr;have HBR:=sH hbr;have hsr:=hbr.size;clear hbr;go_wp2_with fail
 refine(Q3n wr).mono ?_;rintro _ x1 ⟨g1,g2,g3,rfl,⟨hg1,hg2,hg3,hg4⟩,hk1,hk2,hk3,hb⟩;have HRC:=sH (crw_take (Q6L hk3 (Q0x hk1) (Q0x hk2) (by omega) (by omega)));have hbw:=HBR.out.trans (hb.mono hsr);have HB0:=sH (HB1.out.trans (hbw.mono HB1.out.size));have HBK2:=sH (HBK.out.below hbw);clear hk1 hk2 hk3 hb hbw hg1 hg2 hg3 hg4;go_wp2_with fail
 refine(Q1B k [] 0 (some ⟨g3,0,none⟩) 1 2 [(1,[5,6,7,8])] x1 HBK2.out (by omega) HRC.out (by omega)).mono ?_;rintro _ x2 ⟨_,hgo⟩;obtain⟨V,rfl,hna⟩:=hgo ok0 newQ_one;have HS:=sH (ASt.start HB0.out HKN.out hna);clear hgo hna HRC HB0 HBK2 HBK HB1 HBR;go_wp2_with fail
 refine(Q70 x2).mono ?_;rintro _ x3 ⟨At,ct,rfl,hct,hb⟩;have HS:=sH (HS.out.below hb);have HCT:=sH hct;clear hct hb;go_wp2_with fail
 refine(Qbr At 2 ct twoL x3 HCT.out (by omega)).mono ?_;rintro _ x4 ⟨_,hgo⟩;obtain⟨rfl,hb⟩:=hgo ak0 Q6T;have HS:=sH (HS.out.below hb);clear hgo hb HCT;go_wp2_with fail
 refine(Qbr none 0 0 [] x4 ⟨rfl,fun h=>absurd h (by omega)⟩ (by omega)).mono ?_;rintro _ x5 ⟨hno,_⟩;obtain⟨rfl,hb⟩:=hno rfl;have HS:=sH (HS.out.below hb);clear hno hb;go_wp2_with fail
 refine(HS.out.bad (by omega) Q9q (Q7F rfl rfl (by simp only [Q9q,I64]; omega)) 2 ⟨Qbl.1,by rw [Qbl.2]; rfl⟩).mono ?_;rintro _ x6 ⟨D,rfl,hds,hdo,hst⟩;have HDS:=sH hds;have HDO:=sH hdo;have HS:=sH hst;clear hds hdo hst;go_upto_region 30 with(refine Q00 (o:=⟨none,_,_,_,_,_⟩) rfl 34 (.tmp 13) (.tmp 142) rfl x6.heap.size 0 D rfl rfl 34 (anC 0 none 0 0 0 none 0 0) (Blk.newAt rfl) (by rw [HDS.out]; kernel_rfl) (by rw [HDS.out]; simp [anC]) HDO.out ?_; intro x7 hT hD)
 have hb:Below x6.heap.size x6 x7:=hT.below ((zB _ _).alloc (zA _) _) (zA _);have HS:=sH (HS.out.below hb);clear hb hT hD HDS HDO;go_wp2_with fail
 refine(Q1O 31 0 1 x7).mono ?_;rintro _ x8 ⟨rfl,hb⟩;have HS:=sH (HS.out.below hb);clear hb;go_wp2_with fail
 refine(HS.out.bad (by omega) (Q1e 31 0 1) (Q5l (by unfold I64; omega)) 2 ⟨Qbb.1,by rw [Qbb.2]; rfl⟩).mono ?_;rintro _ x9 ⟨D,rfl,hds,hdo,hst⟩;have HDS:=sH hds;have HDO:=sH hdo;have HS:=sH hst;clear hds hdo hst;go_upto_region 31 with(refine Q00 (o:=⟨none,_,_,_,_,_⟩) rfl 34 (.tmp 15) (.tmp 148) rfl x9.heap.size 0 D rfl rfl 34 (anC 0 none 0 0 0 none 0 0) (Blk.newAt rfl) (by rw [HDS.out]; kernel_rfl) (by rw [HDS.out]; simp [anC]) HDO.out ?_; intro y0 hT hD)
 have hb:Below x9.heap.size x9 y0:=hT.below ((zB _ _).alloc (zA _) _) (zA _);have HS:=sH (HS.out.below hb);clear hb hT hD HDS HDO;go_wp2_with fail
 refine(Q1O 31 1 2 y0).mono ?_;rintro _ q0 ⟨rfl,hb⟩;have HS:=sH (HS.out.below hb);clear hb;go_wp2_with fail
 refine(HS.out.does_ (by omega) (Q1e 31 1 2) (Q5l (by unfold I64; omega)) 180 0 ok1 rfl ok_a0 _ rfl).mono ?_;rintro _ d0 ⟨rfl,hst⟩;have HS:=sH hst;clear hst;go_wp2_with fail
 refine(Q0z 34 1 2 9 20 d0).mono ?_;rintro _ q1 ⟨rfl,hb⟩;have HS:=sH (HS.out.below hb);clear hb;go_wp2_with fail
 refine(HS.out.does_ (by omega) (Q0N 34 1 2 9 20) (Q37 (by unfold I64; omega)) 180 0 ok2 rfl ok_a1 _ rfl).mono ?_;rintro _ d1 ⟨rfl,hst⟩;have HS:=sH hst;clear hst;go_wp2_with fail
 refine(Q0z 34 2 1 9 20 d1).mono ?_;rintro _ q2 ⟨rfl,hb⟩;have HS:=sH (HS.out.below hb);clear hb;go_wp2_with fail
 refine(HS.out.does_ (by omega) (Q0N 34 2 1 9 20) (Q37 (by unfold I64; omega)) 180 0 ok3 rfl ok_a2 _ rfl).mono ?_;rintro _ d2 ⟨rfl,hst⟩;have HS:=sH hst;clear hst;go_wp2_with fail
 refine(Q0z 34 3 1 5 6 d2).mono ?_;rintro _ q3 ⟨rfl,hb⟩;have HS:=sH (HS.out.below hb);clear hb;go_wp2_with fail
 refine(HS.out.does_ (by omega) (Q0N 34 3 1 5 6) (Q37 (by unfold I64; omega)) 180 0 ok4 rfl ok_a3 _ rfl).mono ?_;rintro _ d3 ⟨rfl,hst⟩;have HS:=sH hst;clear hst;go_wp2_with fail
 refine(Q0z 34 4 1 5 4 d3).mono ?_;rintro _ q4 ⟨rfl,hb⟩;have HS:=sH (HS.out.below hb);clear hb;go_wp2_with fail
 refine(HS.out.does_ (by omega) (Q0N 34 4 1 5 4) (Q37 (by unfold I64; omega)) 180 0 ok5 rfl ok_a4 _ rfl).mono ?_;rintro _ d4 ⟨rfl,hst⟩;have HS:=sH hst;clear hst;go_wp2_with fail
 refine(Q0z 33 5 1 5 20 d4).mono ?_;rintro _ q5 ⟨rfl,hb⟩;have HS:=sH (HS.out.below hb);clear hb;go_wp2_with fail
 refine(HS.out.does_ (by omega) (Q0N 33 5 1 5 20) (Q37 (by unfold I64; omega)) 180 0 ok6 rfl ok_a5 _ rfl).mono ?_;rintro _ d5 ⟨rfl,hst⟩;have HS:=sH hst;clear hst;go_wp2_with fail
 refine(HS.out.chunks 1 (by rw [ok_c6.1]; rfl)).mono ?_;rintro _ _ ⟨rfl,rfl⟩;go_wp2_with fail
 refine(HS.out.crewsLen 1 1 1 rfl (by omega) (by kernel_rfl)).mono ?_;rintro _ e1 ⟨A1,c1,rfl,hst⟩;have HS:=sH hst;clear hst;go_wp2_with fail
 refine(HS.out.crewsLen 2 0 2 rfl (by omega) (by kernel_rfl)).mono ?_;rintro _ e2 ⟨A2,c2,rfl,hst⟩;have HS:=sH hst;clear hst;go_wp2_with fail
 refine(HS.out.crewsLen 0 0 0 rfl (by omega) (by kernel_rfl)).mono ?_;rintro _ e3 ⟨A3,c3,rfl,hst⟩;have HSL:=sH (show ASt w k V (okN 0) (100+6*0) e3 from hst.more (by omega));clear hst HS;go_wp2_with fail
 go_loopw [18] (fun iv wr=>∃ n:Nat,n<=20/\iv=.int .i64 n/\ASt w k V (okN n) (100+6*n) wr) (fun iv _=>20 - (intOf iv).toNat)
 case atStart=>exact⟨0,by omega,rfl,HSL.out⟩
 obtain⟨n,hn,rfl,hst⟩:=hrel;have HS:=sH hst;clear hst HSL;by_cases hin:n<20
 ·skip;have hinI:(n:Int)<20:=by omega
  have hinJ:(n:Int)<(n:Int)+1:=by omega
  have hin0:¬ (n:Int)<0:=by omega
  go_wp2_with fail
  refine(HS.out.head hin).mono ?_;rintro _ x1 ⟨gl,cap,ad,c,rfl,hc1,hc2,hst⟩;have HS:=sH hst;clear hst;go_wp2_with fail
  refine(Q0z 34 (10+(n:Int)) 1 (5+(n:Int)) (9+(n:Int)) x1).mono ?_;rintro _ x2 ⟨rfl,hb⟩;have HS:=sH (HS.out.below hb);clear hb hc1 hc2;go_wp2_with fail
  refine(HS.out.does_ (by omega) (Q0N 34 (10+(n:Int)) 1 (5+(n:Int)) (9+(n:Int))) (Q37 (by unfold I64; omega)) 0 (n+1) (okN (n+1)) rfl (okN_ans n hin) _ rfl).mono ?_;rintro _ x3 ⟨rfl,hst⟩;have HS:=sH (show ASt w k V (okN (n+1)) (100+6*(n+1)) x3 from hst.more (by omega));clear hst;go_wp2_with fail
  go_roundw
  case rel=>exact⟨n+1,by omega,by go_num,HS.out⟩
  case measure=>simp [intOf]; omega
 obtain rfl:n=20:=by omega
 clear hin hn;have hbl:=Q02 wr (.cells #[.int .i64 2] 3);have hk0:Blk (wr.alloc (.cells #[.int .i64 2] 3)) wr.heap.size 3 #[.int .i64 2]:=Blk.newAt rfl;have hs1:(wr.alloc (.cells #[.int .i64 2] 3)).heap.size=wr.heap.size+1:=by simp
 have hbl2:=Q02 (wr.alloc (.cells #[.int .i64 2] 3)) (.cells #[.int .i64 0,.slice (some ⟨wr.heap.size,0,none⟩) 1 1] 69);have hk1:Blk ((wr.alloc (.cells #[.int .i64 2] 3)).alloc (.cells #[.int .i64 0,.slice (some ⟨wr.heap.size,0,none⟩) 1 1] 69)) (wr.heap.size+1) 69 #[.int .i64 0,.slice (some ⟨wr.heap.size,0,none⟩) 1 1]:=Blk.newAt hs1.symm;have HRC:=sH (crw_one hk1 (hk0.below' hbl2));have hb:=hbl.trans (hbl2.mono hbl.size);have HS:=sH (HS.out.below hb);clear hbl hk0 hs1 hbl2 hk1 hb;go_wp2_with fail
 obtain⟨L,a',h1,h2,h3⟩:=HS.out.book;refine(Q1B k L a' (some ⟨wr.heap.size+1,0,none⟩) 1 1 [(0,[2])] _ h1 (by omega) HRC.out (by omega)).mono ?_;rintro _ x2 ⟨_,hgo⟩;obtain⟨V2,rfl,hna⟩:=hgo le0 Q9y;have HSL:=sH (show ASt w k V2 (leN 0) (300+6*0) x2 from(ASt.start HS.out.low h3 hna).more (by omega));clear hgo hna HRC HS L a' h1 h2 h3;go_wp2_with fail
 go_loopw [21] (fun iv wr=>∃ n:Nat,n<=21/\iv=.int .i64 n/\ASt w k V2 (leN n) (300+6*n) wr) (fun iv _=>21 - (intOf iv).toNat)
 case atStart=>exact⟨0,by omega,rfl,HSL.out⟩
 obtain⟨n,hn,rfl,hst⟩:=hrel;have HS:=sH hst;clear hst HSL;by_cases hin:n<21
 ·skip;have hinI:(n:Int)<21:=by omega
  go_wp2_with fail
  refine(Q0z 34 (1+(n:Int)) 1 (2+(n:Int)) (3+(n:Int)) wr).mono ?_;rintro _ x2 ⟨rfl,hb⟩;have HS:=sH (HS.out.below hb);clear hb;go_wp2_with fail
  refine(HS.out.does_ (by omega) (Q0N 34 (1+(n:Int)) 1 (2+(n:Int)) (3+(n:Int))) (Q37 (by unfold I64; omega)) 0 (n+1) (leN (n+1)) rfl (leN_ans n hin) _ rfl).mono ?_;rintro _ x3 ⟨rfl,hst⟩;have HS:=sH (show ASt w k V2 (leN (n+1)) (300+6*(n+1)) x3 from hst.more (by omega));clear hst;go_wp2_with fail
  go_roundw
  case rel=>exact⟨n+1,by omega,by go_num,HS.out⟩
  case measure=>simp [intOf]; omega
 obtain rfl:n=21:=by omega
 clear hin hn;go_wp2_with fail
 refine(Q0z 34 99 1 23 24 wr).mono ?_;rintro _ x2 ⟨rfl,hb⟩;have HS:=sH (HS.out.below hb);clear hb;go_wp2_with fail
 refine(HS.out.does_ (by omega) (Q0N 34 99 1 23 24) (Q37 (by unfold I64; omega)) 5 0 le22 rfl le_a0 _ rfl).mono ?_;rintro _ x3 ⟨rfl,hst⟩;have HS:=sH hst;clear hst;go_wp2_with fail
 refine(Q1O 31 1 1 x3).mono ?_;rintro _ x4 ⟨rfl,hb⟩;have HS:=sH (HS.out.below hb);clear hb;have hbl:=Q02 x4 (.cells #[.int .i64 23] 3);have hk0:Blk (x4.alloc (.cells #[.int .i64 23] 3)) x4.heap.size 3 #[.int .i64 23]:=Blk.newAt rfl;have HRD:=sH (Q68 hk0);have HBL:=sH hbl;clear hbl hk0;go_wp2_with fail
 refine(HS.out.does1 HBL.out (by omega) (Q1e 31 1 1) (Q5l (by unfold I64; omega)) 0 21 23 (some ⟨x4.heap.size,0,none⟩) 1 1 HRD.out (fun a ha=>by injection ha with ha; subst ha; exact zA _) le23 rfl le_a1 _ rfl).mono ?_;rintro _ x5 ⟨rfl,hst⟩;have HS:=sH hst;clear hst HRD HBL;go_wp2_with fail
 refine(HS.out.crewsLen 1 22 1 rfl (by omega) (by kernel_rfl)).mono ?_;rintro _ x6 ⟨A1,c1,rfl,hst⟩;have HS:=sH hst;clear hst;go_wp2_with fail
 refine(Q70 x6).mono ?_;rintro _ x7 ⟨At,ct,rfl,hct,hb⟩;have HS:=sH (HS.out.below hb);have HCT:=sH hct;clear hct hb;go_wp2_with fail
 obtain⟨L,a',h1,h2,h3⟩:=HS.out.book;refine(Q1B k L a' At 2 ct twoL x7 h1 (by omega) HCT.out (by omega)).mono ?_;rintro _ x8 ⟨_,hgo⟩;obtain⟨V3,rfl,hna⟩:=hgo ak0 Q6T;have HS3:=sH (show ASt w k V3 ak0 600 x8 from(ASt.start HS.out.low h3 hna).more (by omega));clear hgo hna HCT HS L a' h1 h2 h3;go_wp2_with fail
 refine akLoop4 HS3 ?_;intro u27 u28 u29 u280 u281 u282 u283 u284 u285 u286 u287 u288 u289 u290 u291 u292 u293 u294 u295 u296 u297 u298 u299 u300 u301 u302 u303 u304 u305 u306 u307 u308 u309 u310 u311 u312 u313 u314 u315 u316 u317 u318 u319 u320 u321 u322 u323 u324 u325 u326 u327 u328 u329 u330 u331 u332 u333 u334 u335 u336 u337 u338 u339 u340 u341 u342 u343 u344 u345 u346 u347 u348 wr hst;have HS:=sH hst;clear hst HS3;obtain⟨i0,hi0,hz0,hz1,hz2⟩:=info_parts Q2p;go_wp2_with fail
 refine(HS.out.bytes).mono ?_;rintro _ w38 ⟨v,rfl,hob,hb⟩;obtain⟨Ab,cb,hv,q1,q2,q3,q4⟩:=Q0m hob;rw [Q9o] at hv q1 q3;subst hv;have HS:=sH (HS.out.below hb);have HRB:=sH q3;have hcb:(51:Int)<=(cb:Int):=by omega
 have hcb2:¬ (cb:Int)<51:=by omega
 have hcb3:52<=cb:=q1;clear hob hb q1 q2 q3 q4;go_wp2_with fail
 refine(HS.out.loadBad (by omega) Ab 51 cb ((Q2K ak0).take 51) (by rw [List.map_take]; exact atake_ HRB.out (by omega)) (by omega) (by omega) 3 3 rfl ak_trunc).mono ?_;rintro _ w39 ⟨rfl,hb⟩;have HS:=sH (HS.out.below hb);have HRB:=sH ((HRB.out.below hb).more hb.size);clear hb hcb hcb2;go_wp2_with fail
 refine(Q7w Ab 52 cb (Q2K ak0) w39 _ HRB.out (zA _) (by omega)).mono ?_;rintro _ w40 ⟨v,rfl,hob,hb⟩;have hbl:=Q02 w40 (.cells #[.int .u8 0] 5);have HO1:=sH (hob.below hbl);have HB40:=sH (hb.trans (hbl.mono hb.size));have hs40:=hb.size;have hsl:(w40.alloc (.cells #[.int .u8 0] 5)).heap.size=w40.heap.size+1:=by simp
 have HR0:=sH (show Q04 (w40.alloc (.cells #[.int .u8 0] 5)) (w40.alloc (.cells #[.int .u8 0] 5)).heap.size 1 (some ⟨w40.heap.size,0,none⟩) 1 (([0]:List UInt8).map vb) from by have h:=Q0l w40 #[.int .u8 0] 5;rw [hsl];exact h)
 obtain⟨b40,hb40⟩:∃ b,b=w40.heap.size:=⟨_,rfl⟩;have HEB:=sH hb40;rw [<- hb40] at HR0;have HVB:=sH Q9o;clear hob hb hbl hb40;go_wp2_with (at_builtin; go_must (refine Q05 _ rfl (.tmp 367) (.tmp 368) 28 rfl w39.heap.size 5 i0 _ 1 1 Tryz.underlying28 hi0 hz0 hz1 hz2 rfl (by omega) _ 52 ((Q2K ak0).map vb) rfl (by have h:=HO1.out.row; rw [HVB.out] at h; exact h) _ (some ⟨b40,0,none⟩) 1 1 (([0]:List UInt8).map vb) (by rw [HEB.out]; rfl) HR0.out ?c1 ?c2 ?c3 ?c4 ?_))
 case c1=>intro u hu; obtain⟨y,_,rfl⟩:=List.mem_map.1 hu; rfl
 case c2=>unfold maxLen; omega
 case c3=>omega
 case c4=>omega
 intro v3 w41 hown3 hg3 hor3;have hb:=Q0i HB40.out (by omega) hg3 (fun b hb=>HO1.out.ge hb);have HS:=sH (HS.out.below hb);have HRB:=sH ((HRB.out.below hb).more hb.size);obtain⟨A3,c3,hv,q1,q2,q3,q4⟩:=Q0m (show OwnB w41 w39.heap.size v3 (Q2K ak0++[0]) by unfold OwnB;rw [List.length_append,List.map_append,HVB.out];exact hown3)
 rw [show (Q2K ak0++[0]:List UInt8).length=53 by rw [List.length_append,HVB.out]; rfl] at hv q1 q3;subst hv;have HR3:=sH q3;have hc3:53<=c3:=q1;clear hown3 hg3 hor3 hb q1 q2 q3 q4 HO1 HB40 HR0 HEB;go_wp2_with fail
 refine(HS.out.loadBad (by omega) A3 53 c3 (Q2K ak0++[0]) HR3.out (by omega) (by omega) 4 4 rfl Qbk).mono ?_;rintro _ w42 ⟨rfl,hb⟩;have HS:=sH (HS.out.below hb);have HRB:=sH ((HRB.out.below hb).more hb.size);clear hb HR3 hc3;go_wp2_with fail
 refine(HS.out.loadNone Ab 52 cb (Q2K ak0) HRB.out (by omega) (by omega) ak_some).mono ?_;rintro _ w45 ⟨rfl,hb⟩;have HS:=sH (HS.out.below hb);obtain⟨L,a',h1,h2,h3⟩:=HS.out.book;have HKK:=sH h1.lt;clear hb HRB L a' h1 h2 h3;go_wp2_with fail
 refine(Q95 k none 0 0 [] w45 HKK.out ⟨rfl,fun h=>absurd h (by omega)⟩ (by omega) (fun x hx=>by cases hx)).mono ?_;rintro _ w46 ⟨hno,_⟩;obtain⟨rfl,hb⟩:=hno rfl;have HLO:=sH (HS.out.below hb).low;clear hb hno HS HKK;go_upto_region 86 with fail
 have HZ:=sH Q23;obtain⟨DZ,hD⟩:∃ D,D=inkZ:=⟨_,rfl⟩;have HDE:=sH hD;have HDS:=sH (show DZ.size=32 by rw [hD]; simp [inkZ,bRow]);have HDO:=sH (show DZ.all (·.oneCell')=true by rw [hD]; exact Q0Q _);clear hD;go_wp2_with fail
 go_loopw [41,42] (fun pv tv wr=>∃ (i:Nat) (p:Option Addr),i<=2/\pv=.pointer p/\tv=.int .i64 i/\NilA wr p/\Below w.heap.size w wr) (fun _ tv _=>2 - (intOf tv).toNat)
 case atStart=>exact⟨0,none,by omega,rfl,rfl,.inl rfl,HLO.out⟩
 obtain⟨i,p,hi,rfl,rfl,hnv,hlo⟩:=hrel;have HNV:=sH hnv;have HL:=sH hlo;clear hnv hlo HLO;by_cases hi2:i<2
 ·have hiI:(i:Int)<2:=by omega
  go_wp2_with fail
  refine(Q1O 31 1 1 wr).mono ?_;rintro _ y1 ⟨rfl,hb⟩;have HNV:=sH (HNV.out.below hb);have HL:=sH (HL.out.trans (hb.mono HL.out.size));clear hb;go_wp2_with fail
  refine(aNilDo y1 p _ rfl HNV.out).mono ?_;rintro _ y2 ⟨rfl,hb⟩;have HNV:=sH (HNV.out.below hb);have HL:=sH (HL.out.trans (hb.mono HL.out.size));clear hb;go_upto_region 90 with(refine Q00 (o:=⟨none,_,_,_,_,_⟩) rfl 34 (.tmp 43) (.tmp 408) rfl y2.heap.size 0 (anC 0 none 0 0 0 none 0 0) rfl rfl 34 (anC 0 none 0 0 0 none 0 0) (Blk.newAt rfl) (by kernel_rfl) (by simp [anC]) (by simp [anC,Value.oneCell']) ?_; intro y3 hT hD)
  have hb:Below y2.heap.size y2 y3:=hT.below ((zB _ _).alloc (zA _) _) (zA _);have HNV:=sH (HNV.out.below hb);have HL:=sH (HL.out.trans (hb.mono HL.out.size));clear hb hT hD;go_wp2_with fail
  refine(aNilRoot y3 p HNV.out).mono ?_;rintro _ y5 ⟨rfl,hb⟩;have HNV:=sH (HNV.out.below hb);have HL:=sH (HL.out.trans (hb.mono HL.out.size));clear hb;rw [<- HDE.out];go_upto_region 91 with(refine Q00 (o:=⟨none,_,_,_,_,_⟩) rfl 51 (.tmp 45) (.tmp 413) rfl y5.heap.size 0 DZ rfl rfl 51 _ (Blk.newAt rfl) (by rw [HDS.out]; kernel_rfl) (by rw [HDS.out]; simp) HDO.out ?_; intro y6 hT hD)
  have hb:Below y5.heap.size y5 y6:=hT.below ((zB _ _).alloc (zA _) _) (zA _);have HNV:=sH (HNV.out.below hb);have HL:=sH (HL.out.trans (hb.mono HL.out.size));clear hb hT hD;go_wp2_with fail
  refine(Qaj y6 p HNV.out).mono ?_;rintro _ y7 ⟨rfl,hb⟩;have HNV:=sH (HNV.out.below hb);have HL:=sH (HL.out.trans (hb.mono HL.out.size));clear hb;go_wp2_with fail
  refine(Q1O 31 1 1 y7).mono ?_;rintro _ y8 ⟨rfl,hb⟩;have HNV:=sH (HNV.out.below hb);have HL:=sH (HL.out.trans (hb.mono HL.out.size));clear hb;go_wp2_with fail
  refine(Qb4 y8 p _ rfl HNV.out).mono ?_;rintro _ y9 ⟨rfl,hb⟩;have HNV:=sH (HNV.out.below hb);have HL:=sH (HL.out.trans (hb.mono HL.out.size));clear hb;go_upto_region 93 with(refine Q00 (o:=⟨none,_,_,_,_,_⟩) rfl 34 (.tmp 49) (.tmp 424) rfl y9.heap.size 0 (anC 0 none 0 0 0 none 0 0) rfl rfl 34 (anC 0 none 0 0 0 none 0 0) (Blk.newAt rfl) (by kernel_rfl) (by simp [anC]) (by simp [anC,Value.oneCell']) ?_; intro z0 hT hD)
  have hb:Below y9.heap.size y9 z0:=hT.below ((zB _ _).alloc (zA _) _) (zA _);have HNV:=sH (HNV.out.below hb);have HL:=sH (HL.out.trans (hb.mono HL.out.size));clear hb hT hD;go_wp2_with fail
  refine(Qby z0 p 1 HNV.out).mono ?_;rintro _ z1 ⟨rfl,hb⟩;have HNV:=sH (HNV.out.below hb);have HL:=sH (HL.out.trans (hb.mono HL.out.size));clear hb;go_wp2_with fail
  refine(Qa2 z1 p HNV.out).mono ?_;rintro _ z2 ⟨rfl,hb⟩;have HNV:=sH (HNV.out.below hb);have HL:=sH (HL.out.trans (hb.mono HL.out.size));clear hb;go_wp2_with fail
  refine(Q9F z2 p HNV.out).mono ?_;rintro _ z5 ⟨rfl,hb⟩;have HNV:=sH (HNV.out.below hb);have HL:=sH (HL.out.trans (hb.mono HL.out.size));clear hb;go_wp2_with fail
  go_roundw
  case rel=>exact⟨i+1,some ⟨z5.heap.size,0,none⟩,by omega,rfl,by go_num,.inr ⟨_,rfl,(Blk.newAt rfl).cell 0⟩,HL.out.alloc HL.out.size _⟩
  case measure=>simp [intOf]; omega
 obtain rfl:i=2:=by omega
 go_upto_region 96 with fail
 refine Q17 29 487 (fun jx W v=>match jx with | 0=>v=.bool true | 1=>v=.bool true | 2=>v=.bool true | 3=>v=.bool true | 4=>v=.int .i64 7 | 5=>v=.bool true | 6=>v=.bool true | 7=>v=.bool true | 8=>v=.bool true | 9=>v=.bool true | 10=>v=.bool true | 11=>v=.bool true | 12=>v=.bool true | 13=>v=.bool true | 14=>v=.int .i64 11 | 15=>v=.bool true | 16=>v=.bool true | 17=>v=.bool true | 18=>v=.bool true | 19=>v=.bool true | 20=>v=.bool true | 21=>∃ g1 g2 g3,v=.slice (some ⟨g3,0,none⟩) 2 2/\Blk W g3 69 (crw 1 (some ⟨g1,0,none⟩) 4 4 1 (some ⟨g2,0,none⟩) 4 4)/\Blk W g1 3 (nat4 5 6 7 8) | 22=>∃ g1 g2 g3,v=.pointer (some ⟨g3,0,none⟩)/\Blk W g3 69 (crw 1 (some ⟨g1,0,none⟩) 4 4 1 (some ⟨g2,0,none⟩) 4 4)/\Blk W g1 3 (nat4 5 6 7 8) | 23=>∃ g1,v=.agg (crC 1 (some ⟨g1,0,none⟩) 4 4)/\Blk W g1 3 (nat4 5 6 7 8) | 24=>∃ g1 g2 g3,v=.slice (some ⟨g3,0,none⟩) 2 2/\Blk W g3 69 (crw 1 (some ⟨g1,0,none⟩) 4 4 1 (some ⟨g2,0,none⟩) 4 4)/\Blk W g1 3 (nat4 5 6 7 8) | 25=>∃ g1 g2 g3,v=.pointer (some ⟨g3,0,none⟩)/\Blk W g3 69 (crw 1 (some ⟨g1,0,none⟩) 4 4 1 (some ⟨g2,0,none⟩) 4 4)/\Blk W g1 3 (nat4 5 6 7 8) | 26=>∃ g1,v=.agg (crC 1 (some ⟨g1,0,none⟩) 4 4)/\Blk W g1 3 (nat4 5 6 7 8) | 27=>v=.bool true | 28=>v=.bool true | _=>True) [458,459,460,461,462,463,464,465,466,467,468,469,470,471,472,473,474,475,476,477,478,479,480,481,482,483,484,485,486] (by kernel_rfl) (by kernel_rfl) (by kernel_rfl) (by first | rfl | simp) (by kernel_rfl) (fun jx=>?last) ?heads ?_
 case last =>
  match jx with
  | 0 | 1 | 2 | 3 | 4 | 5 | 6 | 7 | 8 | 9 | 10 | 11 | 12 | 13 | 14 | 15 | 16 | 17 | 18 | 19 | 20 | 27 | 28 | jx+29=>exact Q2w.pure _
  | 21=>exact fun W W' v ⟨g1,g2,g3,h1,h2,h3⟩ hb=>⟨g1,g2,g3,h1,h2.below' hb,h3.below' hb⟩
  | 22=>exact fun W W' v ⟨g1,g2,g3,h1,h2,h3⟩ hb=>⟨g1,g2,g3,h1,h2.below' hb,h3.below' hb⟩
  | 23=>exact fun W W' v ⟨g1,h1,h3⟩ hb=>⟨g1,h1,h3.below' hb⟩
  | 24=>exact fun W W' v ⟨g1,g2,g3,h1,h2,h3⟩ hb=>⟨g1,g2,g3,h1,h2.below' hb,h3.below' hb⟩
  | 25=>exact fun W W' v ⟨g1,g2,g3,h1,h2,h3⟩ hb=>⟨g1,g2,g3,h1,h2.below' hb,h3.below' hb⟩
  | 26=>exact fun W W' v ⟨g1,h1,h3⟩ hb=>⟨g1,h1,h3.below' hb⟩
 case heads =>
  simp only [tT];and_intros;rotate_right;trivial;all_goals intro a W hb hkp hd
  ·exact sV
  ·have eg:=sJ (hd 0) 458;exact Q1m (Q0I rfl rfl eg) 40 #[] (by go_simp) ((Qa8 W).mono fun e w h=>⟨_,h.1,h.2,rfl⟩)
  ·have e0:=sJ (hd 0) 458;have e1:=sJ (hd 1) 459;exact sV
  ·have e0:=sJ (hd 2) 460;exact sV
  ·have eg:=sJ (hd 3) 461;have e0:(_:Value)=.int .i64 7:=sK hkp 2;exact sV (Q0I rfl rfl eg)
  ·have eg:=sJ (hd 3) 461;have e0:=sJ (hd 4) 462;exact sV (Q0I rfl rfl eg)
  ·have e0:=sJ (hd 3) 461;have e1:=sJ (hd 5) 463;exact sV
  ·have e0:=sJ (hd 6) 464;exact sV
  ·have eg:=sJ (hd 7) 465;have e0:(_:Value)=.bool true:=sK hkp 17;exact sV (Q0I rfl rfl eg)
  ·have e0:=sJ (hd 7) 465;have e1:=sJ (hd 8) 466;exact sV
  ·have e0:=sJ (hd 9) 467;exact sV
  ·have eg:=sJ (hd 10) 468;have e0:(_:Value)=.bool true:=sK hkp 22;exact sV (Q0I rfl rfl eg)
  ·have e0:=sJ (hd 10) 468;have e1:=sJ (hd 11) 469;exact sV
  ·have e0:=sJ (hd 12) 470;exact sV
  ·have eg:=sJ (hd 13) 471;have e0:(_:Value)=.int .i64 11:=sK hkp 25;exact sV (Q0I rfl rfl eg)
  ·have eg:=sJ (hd 13) 471;have e0:=sJ (hd 14) 472;exact sV (Q0I rfl rfl eg)
  ·have e0:=sJ (hd 13) 471;have e1:=sJ (hd 15) 473;exact sV
  ·have e0:=sJ (hd 16) 474;exact sV
  ·have eg:=sJ (hd 17) 475;have e0:(_:Value)=.bool true:=sK hkp 40;exact sV (Q0I rfl rfl eg)
  ·have e0:=sJ (hd 17) 475;have e1:=sJ (hd 18) 476;exact sV
  ·have e0:=sJ (hd 19) 477;exact sV
  ·have eg:=sJ (hd 20) 478;refine Q1m (Q0I rfl rfl eg) 26 #[] (by go_simp) ((Q3n W).mono ?_);rintro e w ⟨g1,g2,g3,rfl,_,k1,k2,k3,hb'⟩;exact⟨_,rfl,hb',g1,g2,g3,rfl,k3,k1⟩
  ·have eg:=sJ (hd 20) 478;obtain⟨g1,g2,g3,ev,k3,k1⟩:=(sG (hd 21) 479:);exact Q0E (Q0I rfl rfl eg) (.pointer (some ⟨g3,0,none⟩)) (by go_simp) ⟨g1,g2,g3,rfl,k3,k1⟩
  ·have eg:=sJ (hd 20) 478;obtain⟨g1,g2,g3,ev,k3,k1⟩:=(hd 22 (by kernel_rfl)) _ 480 rfl rfl;exact Q0E (Q0I rfl rfl eg) (.agg (crC 1 (some ⟨g1,0,none⟩) 4 4)) (Q0n 69 (.tmp 480) rfl g3 0 2 ev 69 _ (crC 1 (some ⟨g1,0,none⟩) 4 4) _ k3 Tryz.underlying69 rfl rfl rfl (fun j hj=>by obtain rfl | rfl:j=0\/j=1:=(by omega) <;> rfl)) ⟨g1,rfl,k1⟩
  ·have eg:=sJ (hd 20) 478;refine Q1m (Q0I rfl rfl eg) 26 #[] (by go_simp) ((Q3n W).mono ?_);rintro e w ⟨g1,g2,g3,rfl,_,k1,k2,k3,hb'⟩;exact⟨_,rfl,hb',g1,g2,g3,rfl,k3,k1⟩
  ·have eg:=sJ (hd 20) 478;obtain⟨g1,g2,g3,ev,k3,k1⟩:=(sG (hd 24) 482:);exact Q0E (Q0I rfl rfl eg) (.pointer (some ⟨g3,0,none⟩)) (by go_simp) ⟨g1,g2,g3,rfl,k3,k1⟩
  ·have eg:=sJ (hd 20) 478;obtain⟨g1,g2,g3,ev,k3,k1⟩:=(hd 25 (by kernel_rfl)) _ 483 rfl rfl;exact Q0E (Q0I rfl rfl eg) (.agg (crC 1 (some ⟨g1,0,none⟩) 4 4)) (Q0n 69 (.tmp 483) rfl g3 0 2 ev 69 _ (crC 1 (some ⟨g1,0,none⟩) 4 4) _ k3 Tryz.underlying69 rfl rfl rfl (fun j hj=>by obtain rfl | rfl:j=0\/j=1:=(by omega) <;> rfl)) ⟨g1,rfl,k1⟩
  ·have eg:=sJ (hd 20) 478;obtain⟨g1,ev1,k1⟩:=(sG (hd 23) 481:);obtain⟨g2,ev2,k2⟩:=(sG (hd 26) 484:);exact Q1m (Q0I rfl rfl eg) 41 #[.agg (crC 1 (some ⟨g1,0,none⟩) 4 4),.agg (crC 1 (some ⟨g2,0,none⟩) 4 4)] (by go_simp) ((Qa7 1 1 (some ⟨g1,0,none⟩) 4 4 (some ⟨g2,0,none⟩) 4 4 [5,6,7,8] [5,6,7,8] W W.heap.size (Q0x k1) (Q0x k2) (zA _) (by unfold maxLen; omega) (by unfold maxLen; omega)).mono fun e w h=>⟨.bool true,by rw [h.1]; simp,h.2,rfl⟩)
  have e0:=sJ (hd 20) 478;have e1:=sJ (hd 27) 485;exact sV
 intro f W hb hd;have h486:f 486=.bool true:=hd 28 (by omega) _ 486 rfl rfl;have HL2:=sH (HL.out.trans (hb.mono HL.out.size));simp only [Q19,tU,h486];clear hd hb;try simp only [Act.put,sA]
 go_wp2_with fail
 go_ret
 exact⟨rfl,HL2.out⟩
end
end Go.Proofs.YtckjnbjiafgibaaGreat
