/- TopSlept: the switch, whole; a round's begin; the frames of the two last loops. -/
import Derived.Test.YtpnpjiaciolgiaaRSw0
import Derived.Test.YtpnpjiaciolgiaaRSw1
import Derived.Test.YtpnpjiaciolgiaaRSw2
import Derived.Test.YtpnpjiaciolgiaaRSw3
import Derived.Test.YtpnpjiaciolgiaaRSw4
import Derived.Test.YtpnpjiaciolgiaaRSw5
import Derived.Test.YtpnpjiaciolgiaaRSw6
import Derived.Test.YtpnpjiaciolgiaaRSw7
import Derived.Test.YtpnpjiaciolgiaaRSw8
import Derived.Test.YtpnpjiaciolgiaaRSw10
import Derived.Test.YtpnpjiaciolgiaaRTail
namespace Go.Proofs.YtpnpjiaciolgiaaR
open Go.RowKit

structure Fr2 (p8 p11 p370 : Value) (l : Array Value) : Prop where
  size : l.size = 407
  h8 : l.getD 8 undef = p8
  h11 : l.getD 11 undef = p11
  h370 : l.getD 370 undef = p370

set_option maxRecDepth 100000 in
theorem Fr2.lit {p8 p11 p370 : Value} {l : Array Value} (h : Fr2 p8 p11 p370 l) : ∃ f : Nat → Value, l = (f 0 :: f 1 :: f 2 :: f 3 :: f 4 :: f 5 :: f 6 :: f 7 :: p8 :: f 9 :: f 10 :: p11 :: f 12 :: f 13 :: f 14 :: f 15 :: f 16 :: f 17 :: f 18 :: f 19 :: f 20 :: f 21 :: f 22 :: f 23 :: f 24 :: f 25 :: f 26 :: f 27 :: f 28 :: f 29 :: f 30 :: f 31 :: f 32 :: f 33 :: f 34 :: f 35 :: f 36 :: f 37 :: f 38 :: f 39 :: f 40 :: f 41 :: f 42 :: f 43 :: f 44 :: f 45 :: f 46 :: f 47 :: f 48 :: f 49 :: f 50 :: f 51 :: f 52 :: f 53 :: f 54 :: f 55 :: f 56 :: f 57 :: f 58 :: f 59 :: f 60 :: f 61 :: f 62 :: f 63 :: f 64 :: f 65 :: f 66 :: f 67 :: f 68 :: f 69 :: f 70 :: f 71 :: f 72 :: f 73 :: f 74 :: f 75 :: f 76 :: f 77 :: f 78 :: f 79 :: f 80 :: f 81 :: f 82 :: f 83 :: f 84 :: f 85 :: f 86 :: f 87 :: f 88 :: f 89 :: f 90 :: f 91 :: f 92 :: f 93 :: f 94 :: f 95 :: f 96 :: f 97 :: f 98 :: f 99 :: f 100 :: f 101 :: f 102 :: f 103 :: f 104 :: f 105 :: f 106 :: f 107 :: f 108 :: f 109 :: f 110 :: f 111 :: f 112 :: f 113 :: f 114 :: f 115 :: f 116 :: f 117 :: f 118 :: f 119 :: f 120 :: f 121 :: f 122 :: f 123 :: f 124 :: f 125 :: f 126 :: f 127 :: f 128 :: f 129 :: f 130 :: f 131 :: f 132 :: f 133 :: f 134 :: f 135 :: f 136 :: f 137 :: f 138 :: f 139 :: f 140 :: f 141 :: f 142 :: f 143 :: f 144 :: f 145 :: f 146 :: f 147 :: f 148 :: f 149 :: f 150 :: f 151 :: f 152 :: f 153 :: f 154 :: f 155 :: f 156 :: f 157 :: f 158 :: f 159 :: f 160 :: f 161 :: f 162 :: f 163 :: f 164 :: f 165 :: f 166 :: f 167 :: f 168 :: f 169 :: f 170 :: f 171 :: f 172 :: f 173 :: f 174 :: f 175 :: f 176 :: f 177 :: f 178 :: f 179 :: f 180 :: f 181 :: f 182 :: f 183 :: f 184 :: f 185 :: f 186 :: f 187 :: f 188 :: f 189 :: f 190 :: f 191 :: f 192 :: f 193 :: f 194 :: f 195 :: f 196 :: f 197 :: f 198 :: f 199 :: f 200 :: f 201 :: f 202 :: f 203 :: f 204 :: f 205 :: f 206 :: f 207 :: f 208 :: f 209 :: f 210 :: f 211 :: f 212 :: f 213 :: f 214 :: f 215 :: f 216 :: f 217 :: f 218 :: f 219 :: f 220 :: f 221 :: f 222 :: f 223 :: f 224 :: f 225 :: f 226 :: f 227 :: f 228 :: f 229 :: f 230 :: f 231 :: f 232 :: f 233 :: f 234 :: f 235 :: f 236 :: f 237 :: f 238 :: f 239 :: f 240 :: f 241 :: f 242 :: f 243 :: f 244 :: f 245 :: f 246 :: f 247 :: f 248 :: f 249 :: f 250 :: f 251 :: f 252 :: f 253 :: f 254 :: f 255 :: f 256 :: f 257 :: f 258 :: f 259 :: f 260 :: f 261 :: f 262 :: f 263 :: f 264 :: f 265 :: f 266 :: f 267 :: f 268 :: f 269 :: f 270 :: f 271 :: f 272 :: f 273 :: f 274 :: f 275 :: f 276 :: f 277 :: f 278 :: f 279 :: f 280 :: f 281 :: f 282 :: f 283 :: f 284 :: f 285 :: f 286 :: f 287 :: f 288 :: f 289 :: f 290 :: f 291 :: f 292 :: f 293 :: f 294 :: f 295 :: f 296 :: f 297 :: f 298 :: f 299 :: f 300 :: f 301 :: f 302 :: f 303 :: f 304 :: f 305 :: f 306 :: f 307 :: f 308 :: f 309 :: f 310 :: f 311 :: f 312 :: f 313 :: f 314 :: f 315 :: f 316 :: f 317 :: f 318 :: f 319 :: f 320 :: f 321 :: f 322 :: f 323 :: f 324 :: f 325 :: f 326 :: f 327 :: f 328 :: f 329 :: f 330 :: f 331 :: f 332 :: f 333 :: f 334 :: f 335 :: f 336 :: f 337 :: f 338 :: f 339 :: f 340 :: f 341 :: f 342 :: f 343 :: f 344 :: f 345 :: f 346 :: f 347 :: f 348 :: f 349 :: f 350 :: f 351 :: f 352 :: f 353 :: f 354 :: f 355 :: f 356 :: f 357 :: f 358 :: f 359 :: f 360 :: f 361 :: f 362 :: f 363 :: f 364 :: f 365 :: f 366 :: f 367 :: f 368 :: f 369 :: p370 :: f 371 :: f 372 :: f 373 :: f 374 :: f 375 :: f 376 :: f 377 :: f 378 :: f 379 :: f 380 :: f 381 :: f 382 :: f 383 :: f 384 :: f 385 :: f 386 :: f 387 :: f 388 :: f 389 :: f 390 :: f 391 :: f 392 :: f 393 :: f 394 :: f 395 :: f 396 :: f 397 :: f 398 :: f 399 :: f 400 :: f 401 :: f 402 :: f 403 :: f 404 :: f 405 :: f 406 :: []).toArray := by
  obtain ⟨hs, h8, h11, h370⟩ := h
  subst h8
  subst h11
  subst h370
  exact ⟨fun i => l.getD i undef, frame407_of l hs⟩

structure Fr3 (p31 : Value) (l : Array Value) : Prop where
  size : l.size = 407
  h31 : l.getD 31 undef = p31

set_option maxRecDepth 100000 in
theorem Fr3.lit {p31 : Value} {l : Array Value} (h : Fr3 p31 l) : ∃ f : Nat → Value, l = (f 0 :: f 1 :: f 2 :: f 3 :: f 4 :: f 5 :: f 6 :: f 7 :: f 8 :: f 9 :: f 10 :: f 11 :: f 12 :: f 13 :: f 14 :: f 15 :: f 16 :: f 17 :: f 18 :: f 19 :: f 20 :: f 21 :: f 22 :: f 23 :: f 24 :: f 25 :: f 26 :: f 27 :: f 28 :: f 29 :: f 30 :: p31 :: f 32 :: f 33 :: f 34 :: f 35 :: f 36 :: f 37 :: f 38 :: f 39 :: f 40 :: f 41 :: f 42 :: f 43 :: f 44 :: f 45 :: f 46 :: f 47 :: f 48 :: f 49 :: f 50 :: f 51 :: f 52 :: f 53 :: f 54 :: f 55 :: f 56 :: f 57 :: f 58 :: f 59 :: f 60 :: f 61 :: f 62 :: f 63 :: f 64 :: f 65 :: f 66 :: f 67 :: f 68 :: f 69 :: f 70 :: f 71 :: f 72 :: f 73 :: f 74 :: f 75 :: f 76 :: f 77 :: f 78 :: f 79 :: f 80 :: f 81 :: f 82 :: f 83 :: f 84 :: f 85 :: f 86 :: f 87 :: f 88 :: f 89 :: f 90 :: f 91 :: f 92 :: f 93 :: f 94 :: f 95 :: f 96 :: f 97 :: f 98 :: f 99 :: f 100 :: f 101 :: f 102 :: f 103 :: f 104 :: f 105 :: f 106 :: f 107 :: f 108 :: f 109 :: f 110 :: f 111 :: f 112 :: f 113 :: f 114 :: f 115 :: f 116 :: f 117 :: f 118 :: f 119 :: f 120 :: f 121 :: f 122 :: f 123 :: f 124 :: f 125 :: f 126 :: f 127 :: f 128 :: f 129 :: f 130 :: f 131 :: f 132 :: f 133 :: f 134 :: f 135 :: f 136 :: f 137 :: f 138 :: f 139 :: f 140 :: f 141 :: f 142 :: f 143 :: f 144 :: f 145 :: f 146 :: f 147 :: f 148 :: f 149 :: f 150 :: f 151 :: f 152 :: f 153 :: f 154 :: f 155 :: f 156 :: f 157 :: f 158 :: f 159 :: f 160 :: f 161 :: f 162 :: f 163 :: f 164 :: f 165 :: f 166 :: f 167 :: f 168 :: f 169 :: f 170 :: f 171 :: f 172 :: f 173 :: f 174 :: f 175 :: f 176 :: f 177 :: f 178 :: f 179 :: f 180 :: f 181 :: f 182 :: f 183 :: f 184 :: f 185 :: f 186 :: f 187 :: f 188 :: f 189 :: f 190 :: f 191 :: f 192 :: f 193 :: f 194 :: f 195 :: f 196 :: f 197 :: f 198 :: f 199 :: f 200 :: f 201 :: f 202 :: f 203 :: f 204 :: f 205 :: f 206 :: f 207 :: f 208 :: f 209 :: f 210 :: f 211 :: f 212 :: f 213 :: f 214 :: f 215 :: f 216 :: f 217 :: f 218 :: f 219 :: f 220 :: f 221 :: f 222 :: f 223 :: f 224 :: f 225 :: f 226 :: f 227 :: f 228 :: f 229 :: f 230 :: f 231 :: f 232 :: f 233 :: f 234 :: f 235 :: f 236 :: f 237 :: f 238 :: f 239 :: f 240 :: f 241 :: f 242 :: f 243 :: f 244 :: f 245 :: f 246 :: f 247 :: f 248 :: f 249 :: f 250 :: f 251 :: f 252 :: f 253 :: f 254 :: f 255 :: f 256 :: f 257 :: f 258 :: f 259 :: f 260 :: f 261 :: f 262 :: f 263 :: f 264 :: f 265 :: f 266 :: f 267 :: f 268 :: f 269 :: f 270 :: f 271 :: f 272 :: f 273 :: f 274 :: f 275 :: f 276 :: f 277 :: f 278 :: f 279 :: f 280 :: f 281 :: f 282 :: f 283 :: f 284 :: f 285 :: f 286 :: f 287 :: f 288 :: f 289 :: f 290 :: f 291 :: f 292 :: f 293 :: f 294 :: f 295 :: f 296 :: f 297 :: f 298 :: f 299 :: f 300 :: f 301 :: f 302 :: f 303 :: f 304 :: f 305 :: f 306 :: f 307 :: f 308 :: f 309 :: f 310 :: f 311 :: f 312 :: f 313 :: f 314 :: f 315 :: f 316 :: f 317 :: f 318 :: f 319 :: f 320 :: f 321 :: f 322 :: f 323 :: f 324 :: f 325 :: f 326 :: f 327 :: f 328 :: f 329 :: f 330 :: f 331 :: f 332 :: f 333 :: f 334 :: f 335 :: f 336 :: f 337 :: f 338 :: f 339 :: f 340 :: f 341 :: f 342 :: f 343 :: f 344 :: f 345 :: f 346 :: f 347 :: f 348 :: f 349 :: f 350 :: f 351 :: f 352 :: f 353 :: f 354 :: f 355 :: f 356 :: f 357 :: f 358 :: f 359 :: f 360 :: f 361 :: f 362 :: f 363 :: f 364 :: f 365 :: f 366 :: f 367 :: f 368 :: f 369 :: f 370 :: f 371 :: f 372 :: f 373 :: f 374 :: f 375 :: f 376 :: f 377 :: f 378 :: f 379 :: f 380 :: f 381 :: f 382 :: f 383 :: f 384 :: f 385 :: f 386 :: f 387 :: f 388 :: f 389 :: f 390 :: f 391 :: f 392 :: f 393 :: f 394 :: f 395 :: f 396 :: f 397 :: f 398 :: f 399 :: f 400 :: f 401 :: f 402 :: f 403 :: f 404 :: f 405 :: f 406 :: []).toArray := by
  obtain ⟨hs, h31⟩ := h
  subst h31
  exact ⟨fun i => l.getD i undef, frame407_of l hs⟩

theorem sw_all {B : Blk} {b0 : Nat} {w0 wr : World} {X pb ib M : Nat} {d pr : Int} {N : Nat} {P : Int} {σ : St} {W : World} {k most : Nat} {lv v56 v57 v58 : Value} {xs : List Nat} {l : Array Value} {K : Act → World → Prop} {Q' : Exit → Act → World → Prop}
    (hd0 : 0 ≤ d) (hd1 : d < 256)
    (hl : FrS B most X pb ib (mineAt B M P) (.int .u64 σ.now) lv v56 v57 v58 (.int .u8 (d % 11)) l) (h : RS B wr X pb ib M d pr N P σ W) (hI : LI B b0 w0 k σ lv xs wr) (hN : N < 18446744073709551616) (hmost : σ.most = most)
    (hK : SwK B b0 w0 wr X pb ib M d pr N P k most v56 v57 v58 K) (hk : k < 100) : sw4.wp Try.prog (Exit.then K Q') ⟨l, []⟩ W := by
  rcases (show d % 11 = 0 ∨ d % 11 = 1 ∨ d % 11 = 2 ∨ d % 11 = 3 ∨ d % 11 = 4 ∨ d % 11 = 5 ∨ d % 11 = 6 ∨ d % 11 = 7 ∨ d % 11 = 8 ∨ d % 11 = 9 ∨ d % 11 = 10 by omega) with e | e | e | e | e | e | e | e | e | e | e
  all_goals rw [e] at hl
  · exact sw_0 hl h hI hN hmost hK
  · exact sw_1 hl h hI hN hmost hK hk
  · exact sw_2 hl h hI hN hmost hK hk
  · exact sw_3 hl h hI hN hmost hK hk
  · exact sw_4 hl h hI hN hmost hK hk
  · exact sw_5 e hd0 hd1 hl h hI hN hmost hK hk
  · exact sw_6 e hd0 hd1 hl h hI hN hmost hK hk
  · exact sw_7 e hd0 hd1 hl h hI hN hmost hK hk
  · exact sw_8 hl h hI hN hmost hK hk
  · exact sw_9 hl h hI hN hmost hK hk
  · exact sw_10 hl h hI hN hmost hK hk

theorem then_self (Q : Exit → Act → World → Prop) : Exit.then (Q .normal) Q = Q := by
  funext e a w
  cases e <;> rfl

theorem tail_q {B : Blk} {b0 : Nat} {w0 wr : World} {X pb ib M : Nat} {d pr : Int} {N : Nat} {P : Int} {σ : St} {W : World} {k most : Nat} {lv v56 v57 v58 v88 : Value} {xs : List Nat} {l : Array Value} {Q : Exit → Act → World → Prop}
    (hl : FrS B most X pb ib (mineAt B M P) (.int .u64 σ.now) lv v56 v57 v58 v88 l) (h : RS B wr X pb ib M d pr N P σ W) (hI : LI B b0 w0 k σ lv xs W)
    (hK : ∀ (l' : Array Value) (W' : World), FrS B most X pb ib (mineAt B M P) (.int .u64 σ.now) lv v56 v57 v58 v88 l' → LI B b0 w0 k σ lv xs W' → Q .normal ⟨l', []⟩ W') : tail4.wp Try.prog Q ⟨l, []⟩ W := by
  rw [← then_self Q]
  exact tail_any hl h hI hK

/-- A round's own variables are made. -/
theorem RS.start {B : Blk} {σ : St} {wr : World} (d pr P : Int) (N : Nat) (hm : M5 B σ wr) (ok : B.Ok) (hlt : B.l < wr.heap.size) (bb : Bool) (hb : bb = inr P) :
    RS B wr wr.heap.size (wr.heap.size + 1) (wr.heap.size + 2) (wr.heap.size + 3) d pr N P σ ((((wr.alloc (.cells #[.int .u8 d, .int .u8 pr, .int .u64 N] 49)).alloc (.cells #[.int .i64 P] 3)).alloc (.cells #[.bool bb] 4)).alloc (.cells #[.bool false, .bool false, .bool false, .int .u64 0] 43)) := by
  have s1 : (wr.alloc (.cells #[.int .u8 d, .int .u8 pr, .int .u64 N] 49)).heap.size = wr.heap.size + 1 := by simp
  have s2 : ((wr.alloc (.cells #[.int .u8 d, .int .u8 pr, .int .u64 N] 49)).alloc (.cells #[.int .i64 P] 3)).heap.size = wr.heap.size + 2 := by simp
  have s3 : (((wr.alloc (.cells #[.int .u8 d, .int .u8 pr, .int .u64 N] 49)).alloc (.cells #[.int .i64 P] 3)).alloc (.cells #[.bool bb] 4)).heap.size = wr.heap.size + 3 := by simp
  have r1 : (wr.alloc (.cells #[.int .u8 d, .int .u8 pr, .int .u64 N] 49)).rowIs wr.heap.size 49 3 (thingF d pr N) := World.rowIs_alloc _ _ 49 _ fun i hi => by
    simp at hi
    rcases (show i = 0 ∨ i = 1 ∨ i = 2 by omega) with rfl | rfl | rfl <;> rfl
  have r2 := World.rowIs_alloc (wr.alloc (.cells #[.int .u8 d, .int .u8 pr, .int .u64 N] 49)) #[.int .i64 P] 3 (fun _ => .int .i64 P) fun i hi => by
    simp at hi
    subst hi
    rfl
  have r3 := World.rowIs_alloc ((wr.alloc (.cells #[.int .u8 d, .int .u8 pr, .int .u64 N] 49)).alloc (.cells #[.int .i64 P] 3)) #[.bool bb] 4 (fun _ => .bool (inr P)) fun i hi => by
    simp at hi
    subst hi
    subst hb
    rfl
  have r4 := World.rowIs_alloc (((wr.alloc (.cells #[.int .u8 d, .int .u8 pr, .int .u64 N] 49)).alloc (.cells #[.int .i64 P] 3)).alloc (.cells #[.bool bb] 4)) #[.bool false, .bool false, .bool false, .int .u64 0] 43 (Pk.nil.cell) fun i hi => by
    simp at hi
    rcases (show i = 0 ∨ i = 1 ∨ i = 2 ∨ i = 3 by omega) with rfl | rfl | rfl | rfl <;> rfl
  rw [s1] at r2
  rw [s2] at r3
  rw [s3] at r4
  exact
    { m := ⟨(((hm.c.alloc _).alloc _).alloc _).alloc _, (((hm.s.alloc _).alloc _).alloc _).alloc _, (((hm.o.alloc _).alloc _).alloc _).alloc _, (((hm.k.alloc _).alloc _).alloc _).alloc _, (((hm.l.alloc _).alloc _).alloc _).alloc _⟩
      ch := (Ch.refl B _ wr).below ((((((Below.refl _ wr).alloc (Nat.le_refl _) _).alloc (by omega) _).alloc (by omega) _).alloc (by omega) _)) (Nat.le_refl _)
      x := ((r1.alloc _).alloc _).alloc _
      p := (r2.alloc _).alloc _
      i := r3.alloc _
      b := ⟨_, r4⟩
      ok := ok
      lt := hlt
      hX := by omega
      hp := by omega
      hi := by omega
      hM := by omega
      n1 := by omega
      n2 := by omega
      n3 := by omega }

end Go.Proofs.YtpnpjiaciolgiaaR
