/- TopSlept's frame: 407 slots, each the value of a function. -/
import Derived.Test.YtpnpjiaciolgiaaRSleptPure
import Derived.Outline
namespace Go.Proofs.YtpnpjiaciolgiaaR
open Go.RowKit

set_option maxRecDepth 100000 in
def frame407 (f : Nat → Value) : Array Value := (f 0 :: f 1 :: f 2 :: f 3 :: f 4 :: f 5 :: f 6 :: f 7 :: f 8 :: f 9 :: f 10 :: f 11 :: f 12 :: f 13 :: f 14 :: f 15 :: f 16 :: f 17 :: f 18 :: f 19 :: f 20 :: f 21 :: f 22 :: f 23 :: f 24 :: f 25 :: f 26 :: f 27 :: f 28 :: f 29 :: f 30 :: f 31 :: f 32 :: f 33 :: f 34 :: f 35 :: f 36 :: f 37 :: f 38 :: f 39 :: f 40 :: f 41 :: f 42 :: f 43 :: f 44 :: f 45 :: f 46 :: f 47 :: f 48 :: f 49 :: f 50 :: f 51 :: f 52 :: f 53 :: f 54 :: f 55 :: f 56 :: f 57 :: f 58 :: f 59 :: f 60 :: f 61 :: f 62 :: f 63 :: f 64 :: f 65 :: f 66 :: f 67 :: f 68 :: f 69 :: f 70 :: f 71 :: f 72 :: f 73 :: f 74 :: f 75 :: f 76 :: f 77 :: f 78 :: f 79 :: f 80 :: f 81 :: f 82 :: f 83 :: f 84 :: f 85 :: f 86 :: f 87 :: f 88 :: f 89 :: f 90 :: f 91 :: f 92 :: f 93 :: f 94 :: f 95 :: f 96 :: f 97 :: f 98 :: f 99 :: f 100 :: f 101 :: f 102 :: f 103 :: f 104 :: f 105 :: f 106 :: f 107 :: f 108 :: f 109 :: f 110 :: f 111 :: f 112 :: f 113 :: f 114 :: f 115 :: f 116 :: f 117 :: f 118 :: f 119 :: f 120 :: f 121 :: f 122 :: f 123 :: f 124 :: f 125 :: f 126 :: f 127 :: f 128 :: f 129 :: f 130 :: f 131 :: f 132 :: f 133 :: f 134 :: f 135 :: f 136 :: f 137 :: f 138 :: f 139 :: f 140 :: f 141 :: f 142 :: f 143 :: f 144 :: f 145 :: f 146 :: f 147 :: f 148 :: f 149 :: f 150 :: f 151 :: f 152 :: f 153 :: f 154 :: f 155 :: f 156 :: f 157 :: f 158 :: f 159 :: f 160 :: f 161 :: f 162 :: f 163 :: f 164 :: f 165 :: f 166 :: f 167 :: f 168 :: f 169 :: f 170 :: f 171 :: f 172 :: f 173 :: f 174 :: f 175 :: f 176 :: f 177 :: f 178 :: f 179 :: f 180 :: f 181 :: f 182 :: f 183 :: f 184 :: f 185 :: f 186 :: f 187 :: f 188 :: f 189 :: f 190 :: f 191 :: f 192 :: f 193 :: f 194 :: f 195 :: f 196 :: f 197 :: f 198 :: f 199 :: f 200 :: f 201 :: f 202 :: f 203 :: f 204 :: f 205 :: f 206 :: f 207 :: f 208 :: f 209 :: f 210 :: f 211 :: f 212 :: f 213 :: f 214 :: f 215 :: f 216 :: f 217 :: f 218 :: f 219 :: f 220 :: f 221 :: f 222 :: f 223 :: f 224 :: f 225 :: f 226 :: f 227 :: f 228 :: f 229 :: f 230 :: f 231 :: f 232 :: f 233 :: f 234 :: f 235 :: f 236 :: f 237 :: f 238 :: f 239 :: f 240 :: f 241 :: f 242 :: f 243 :: f 244 :: f 245 :: f 246 :: f 247 :: f 248 :: f 249 :: f 250 :: f 251 :: f 252 :: f 253 :: f 254 :: f 255 :: f 256 :: f 257 :: f 258 :: f 259 :: f 260 :: f 261 :: f 262 :: f 263 :: f 264 :: f 265 :: f 266 :: f 267 :: f 268 :: f 269 :: f 270 :: f 271 :: f 272 :: f 273 :: f 274 :: f 275 :: f 276 :: f 277 :: f 278 :: f 279 :: f 280 :: f 281 :: f 282 :: f 283 :: f 284 :: f 285 :: f 286 :: f 287 :: f 288 :: f 289 :: f 290 :: f 291 :: f 292 :: f 293 :: f 294 :: f 295 :: f 296 :: f 297 :: f 298 :: f 299 :: f 300 :: f 301 :: f 302 :: f 303 :: f 304 :: f 305 :: f 306 :: f 307 :: f 308 :: f 309 :: f 310 :: f 311 :: f 312 :: f 313 :: f 314 :: f 315 :: f 316 :: f 317 :: f 318 :: f 319 :: f 320 :: f 321 :: f 322 :: f 323 :: f 324 :: f 325 :: f 326 :: f 327 :: f 328 :: f 329 :: f 330 :: f 331 :: f 332 :: f 333 :: f 334 :: f 335 :: f 336 :: f 337 :: f 338 :: f 339 :: f 340 :: f 341 :: f 342 :: f 343 :: f 344 :: f 345 :: f 346 :: f 347 :: f 348 :: f 349 :: f 350 :: f 351 :: f 352 :: f 353 :: f 354 :: f 355 :: f 356 :: f 357 :: f 358 :: f 359 :: f 360 :: f 361 :: f 362 :: f 363 :: f 364 :: f 365 :: f 366 :: f 367 :: f 368 :: f 369 :: f 370 :: f 371 :: f 372 :: f 373 :: f 374 :: f 375 :: f 376 :: f 377 :: f 378 :: f 379 :: f 380 :: f 381 :: f 382 :: f 383 :: f 384 :: f 385 :: f 386 :: f 387 :: f 388 :: f 389 :: f 390 :: f 391 :: f 392 :: f 393 :: f 394 :: f 395 :: f 396 :: f 397 :: f 398 :: f 399 :: f 400 :: f 401 :: f 402 :: f 403 :: f 404 :: f 405 :: f 406 :: []).toArray

set_option maxRecDepth 100000 in
theorem frame407_map (f : Nat → Value) : frame407 f = ((List.range 407).map f).toArray := by kernel_rfl

theorem frame407_of (l : Array Value) (h : l.size = 407) : l = frame407 (fun i => l.getD i undef) := by
  rw [frame407_map]
  apply Array.ext
  · simp [h]
  · intro i h1 h2
    simp [h1]


/-- The block n of a piece of code, and what follows it in its sequence. -/
def blockOf (n : Nat) : Code → Option Code
  | .block k c => bif k == n then some (.block k c) else blockOf n c
  | .seq a b => match blockOf n a with
    | some c => some c
    | none => blockOf n b
  | .cond _ a b => match blockOf n a with
    | some c => some c
    | none => blockOf n b
  | .loop c => blockOf n c
  | _ => none
def isBlock (n : Nat) : Code → Bool
  | .block k _ => k == n
  | .seq _ b => isBlock n b
  | _ => false
def afterOf (n : Nat) : Code → Option Code
  | .block _ c => afterOf n c
  | .seq a b => bif isBlock n a then some b else match afterOf n a with
    | some c => some c
    | none => afterOf n b
  | .cond _ a b => match afterOf n a with
    | some c => some c
    | none => afterOf n b
  | .loop c => afterOf n c
  | _ => none
def codeOf (f : Func) : Code := match f.body with
  | some c => c
  | none => .skip
/-- The switch, and what follows it. -/
noncomputable def sw4 : Code := (blockOf 2 (codeOf Try.f4)).getD .skip
noncomputable def tail4 : Code := (afterOf 2 (codeOf Try.f4)).getD .skip


/-- The slots that are read again. -/
structure Fr1 (p1 p7 p8 p9 p10 p11 p12 p13 p15 p16 p17 p18 p19 p56 p57 p58 p88 : Value) (l : Array Value) : Prop where
  size : l.size = 407
  h1 : l.getD 1 undef = p1
  h7 : l.getD 7 undef = p7
  h8 : l.getD 8 undef = p8
  h9 : l.getD 9 undef = p9
  h10 : l.getD 10 undef = p10
  h11 : l.getD 11 undef = p11
  h12 : l.getD 12 undef = p12
  h13 : l.getD 13 undef = p13
  h15 : l.getD 15 undef = p15
  h16 : l.getD 16 undef = p16
  h17 : l.getD 17 undef = p17
  h18 : l.getD 18 undef = p18
  h19 : l.getD 19 undef = p19
  h56 : l.getD 56 undef = p56
  h57 : l.getD 57 undef = p57
  h58 : l.getD 58 undef = p58
  h88 : l.getD 88 undef = p88

set_option maxRecDepth 100000 in
theorem Fr1.lit {p1 p7 p8 p9 p10 p11 p12 p13 p15 p16 p17 p18 p19 p56 p57 p58 p88 : Value} {l : Array Value} (h : Fr1 p1 p7 p8 p9 p10 p11 p12 p13 p15 p16 p17 p18 p19 p56 p57 p58 p88 l) : ∃ f : Nat → Value, l = (f 0 :: p1 :: f 2 :: f 3 :: f 4 :: f 5 :: f 6 :: p7 :: p8 :: p9 :: p10 :: p11 :: p12 :: p13 :: f 14 :: p15 :: p16 :: p17 :: p18 :: p19 :: f 20 :: f 21 :: f 22 :: f 23 :: f 24 :: f 25 :: f 26 :: f 27 :: f 28 :: f 29 :: f 30 :: f 31 :: f 32 :: f 33 :: f 34 :: f 35 :: f 36 :: f 37 :: f 38 :: f 39 :: f 40 :: f 41 :: f 42 :: f 43 :: f 44 :: f 45 :: f 46 :: f 47 :: f 48 :: f 49 :: f 50 :: f 51 :: f 52 :: f 53 :: f 54 :: f 55 :: p56 :: p57 :: p58 :: f 59 :: f 60 :: f 61 :: f 62 :: f 63 :: f 64 :: f 65 :: f 66 :: f 67 :: f 68 :: f 69 :: f 70 :: f 71 :: f 72 :: f 73 :: f 74 :: f 75 :: f 76 :: f 77 :: f 78 :: f 79 :: f 80 :: f 81 :: f 82 :: f 83 :: f 84 :: f 85 :: f 86 :: f 87 :: p88 :: f 89 :: f 90 :: f 91 :: f 92 :: f 93 :: f 94 :: f 95 :: f 96 :: f 97 :: f 98 :: f 99 :: f 100 :: f 101 :: f 102 :: f 103 :: f 104 :: f 105 :: f 106 :: f 107 :: f 108 :: f 109 :: f 110 :: f 111 :: f 112 :: f 113 :: f 114 :: f 115 :: f 116 :: f 117 :: f 118 :: f 119 :: f 120 :: f 121 :: f 122 :: f 123 :: f 124 :: f 125 :: f 126 :: f 127 :: f 128 :: f 129 :: f 130 :: f 131 :: f 132 :: f 133 :: f 134 :: f 135 :: f 136 :: f 137 :: f 138 :: f 139 :: f 140 :: f 141 :: f 142 :: f 143 :: f 144 :: f 145 :: f 146 :: f 147 :: f 148 :: f 149 :: f 150 :: f 151 :: f 152 :: f 153 :: f 154 :: f 155 :: f 156 :: f 157 :: f 158 :: f 159 :: f 160 :: f 161 :: f 162 :: f 163 :: f 164 :: f 165 :: f 166 :: f 167 :: f 168 :: f 169 :: f 170 :: f 171 :: f 172 :: f 173 :: f 174 :: f 175 :: f 176 :: f 177 :: f 178 :: f 179 :: f 180 :: f 181 :: f 182 :: f 183 :: f 184 :: f 185 :: f 186 :: f 187 :: f 188 :: f 189 :: f 190 :: f 191 :: f 192 :: f 193 :: f 194 :: f 195 :: f 196 :: f 197 :: f 198 :: f 199 :: f 200 :: f 201 :: f 202 :: f 203 :: f 204 :: f 205 :: f 206 :: f 207 :: f 208 :: f 209 :: f 210 :: f 211 :: f 212 :: f 213 :: f 214 :: f 215 :: f 216 :: f 217 :: f 218 :: f 219 :: f 220 :: f 221 :: f 222 :: f 223 :: f 224 :: f 225 :: f 226 :: f 227 :: f 228 :: f 229 :: f 230 :: f 231 :: f 232 :: f 233 :: f 234 :: f 235 :: f 236 :: f 237 :: f 238 :: f 239 :: f 240 :: f 241 :: f 242 :: f 243 :: f 244 :: f 245 :: f 246 :: f 247 :: f 248 :: f 249 :: f 250 :: f 251 :: f 252 :: f 253 :: f 254 :: f 255 :: f 256 :: f 257 :: f 258 :: f 259 :: f 260 :: f 261 :: f 262 :: f 263 :: f 264 :: f 265 :: f 266 :: f 267 :: f 268 :: f 269 :: f 270 :: f 271 :: f 272 :: f 273 :: f 274 :: f 275 :: f 276 :: f 277 :: f 278 :: f 279 :: f 280 :: f 281 :: f 282 :: f 283 :: f 284 :: f 285 :: f 286 :: f 287 :: f 288 :: f 289 :: f 290 :: f 291 :: f 292 :: f 293 :: f 294 :: f 295 :: f 296 :: f 297 :: f 298 :: f 299 :: f 300 :: f 301 :: f 302 :: f 303 :: f 304 :: f 305 :: f 306 :: f 307 :: f 308 :: f 309 :: f 310 :: f 311 :: f 312 :: f 313 :: f 314 :: f 315 :: f 316 :: f 317 :: f 318 :: f 319 :: f 320 :: f 321 :: f 322 :: f 323 :: f 324 :: f 325 :: f 326 :: f 327 :: f 328 :: f 329 :: f 330 :: f 331 :: f 332 :: f 333 :: f 334 :: f 335 :: f 336 :: f 337 :: f 338 :: f 339 :: f 340 :: f 341 :: f 342 :: f 343 :: f 344 :: f 345 :: f 346 :: f 347 :: f 348 :: f 349 :: f 350 :: f 351 :: f 352 :: f 353 :: f 354 :: f 355 :: f 356 :: f 357 :: f 358 :: f 359 :: f 360 :: f 361 :: f 362 :: f 363 :: f 364 :: f 365 :: f 366 :: f 367 :: f 368 :: f 369 :: f 370 :: f 371 :: f 372 :: f 373 :: f 374 :: f 375 :: f 376 :: f 377 :: f 378 :: f 379 :: f 380 :: f 381 :: f 382 :: f 383 :: f 384 :: f 385 :: f 386 :: f 387 :: f 388 :: f 389 :: f 390 :: f 391 :: f 392 :: f 393 :: f 394 :: f 395 :: f 396 :: f 397 :: f 398 :: f 399 :: f 400 :: f 401 :: f 402 :: f 403 :: f 404 :: f 405 :: f 406 :: []).toArray := by
  obtain ⟨hs, h1, h7, h8, h9, h10, h11, h12, h13, h15, h16, h17, h18, h19, h56, h57, h58, h88⟩ := h
  subst h1
  subst h7
  subst h8
  subst h9
  subst h10
  subst h11
  subst h12
  subst h13
  subst h15
  subst h16
  subst h17
  subst h18
  subst h19
  subst h56
  subst h57
  subst h58
  subst h88
  exact ⟨fun i => l.getD i undef, frame407_of l hs⟩

/-- The frame within a round. -/
def FrS (B : Blk) (most X pb ib : Nat) (mine v9 v10 v56 v57 v58 v88 : Value) (l : Array Value) : Prop :=
  Fr1 (.int .u64 most) (.pointer (some ⟨B.c, 0, none⟩)) (.pointer (some ⟨B.s, 0, none⟩)) v9 v10 (.pointer (some ⟨B.o, 0, none⟩)) (.pointer (some ⟨B.k, 0, none⟩)) (.pointer (some ⟨B.l, 0, none⟩)) (.pointer (some ⟨X, 0, none⟩)) (.pointer (some ⟨pb, 0, none⟩)) (.pointer (some ⟨ib, 0, none⟩)) mine
    (.func (.func 14) #[] #[.pointer (some ⟨ib, 0, none⟩), .pointer (some ⟨B.k, 0, none⟩), .pointer (some ⟨pb, 0, none⟩), .pointer (some ⟨B.l, 0, none⟩)]) v56 v57 v58 v88 l

/-- Where the hand-kept parker of the round lies. -/
def mineAt (B : Blk) (M : Nat) (P : Int) : Value := if inr P then .pointer (some ⟨B.o, P.toNat * 4, none⟩) else .pointer (some ⟨M, 0, none⟩)

/-- What is to be shown behind the switch. -/
def SwK (B : Blk) (b0 : Nat) (w0 wr : World) (X pb ib M : Nat) (d pr : Int) (N : Nat) (P : Int) (k most : Nat) (v56 v57 v58 : Value) (K : Act → World → Prop) : Prop :=
  ∀ (l' : Array Value) (v88 : Value) (σ' : St) (lv' : Value) (xs' : List Nat) (W' : World), FrS B most X pb ib (mineAt B M P) (.int .u64 σ'.now) lv' v56 v57 v58 v88 l' → RS B wr X pb ib M d pr N P σ' W' → σ'.most = most → LI B b0 w0 (k + 1) σ' lv' xs' W' → K ⟨l', []⟩ W'


theorem wrap64_over {x : Int} (h : 18446744073709551616 ≤ x) (h2 : x < 36893488147419103232) : IntKind.u64.wrap x = x - 18446744073709551616 := by
  have : IntKind.u64.wrap x = x % 18446744073709551616 := rfl
  rw [this]
  omega

end Go.Proofs.YtpnpjiaciolgiaaR
