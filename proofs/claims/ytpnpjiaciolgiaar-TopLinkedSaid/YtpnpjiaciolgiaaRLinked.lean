/- TopLinked: the walk. -/
import Derived.Test.YtpnpjiaciolgiaaRLinkedPure
import Derived.Outline
import Derived.Deep.RegionWith
import Derived.Deep.RegionHeld3
namespace Go.Proofs.YtpnpjiaciolgiaaR
open Go.RowKit

def LRel (w : World) (b N : Nat) (qv h ix : Value) (wr : World) : Prop :=
  ∃ (k n : Nat) (f : Nat → Int) (q : Nat → Nat), k ≤ N ∧ ix = .int .i64 k ∧ h = .int .i64 (hd q n) ∧ Sl wr (b + 1) 3 1 qv n (ints q n) ∧ wr.rowIs b 72 192 (fv f) ∧ LInv f q n ∧ Below b w wr

theorem info3 : (Try.prog.info? 3).map (fun i => (i.zero, i.size, i.bytes)) = some (some (.int .i64 0), 1, 8) := by kernel_rfl

theorem field26_1 (x y z : Value) (w : World) : (Instr.field 26 (.agg #[x, y, z]) 1).run Try.prog w = .ok y w := by kernel_rfl
theorem field26_2 (x y z : Value) (w : World) : (Instr.field 26 (.agg #[x, y, z]) 2).run Try.prog w = .ok z w := by kernel_rfl

theorem sl_int {w : World} {base n g off c : Nat} {q : Nat → Nat} (h : Sl w base 3 1 (.slice (some ⟨g, off, none⟩) n c) n (ints q n)) {j : Nat} (hj : j < n) : w.cell? ⟨g, off + j, none⟩ = some (.int .i64 (q j)) := by
  obtain ⟨g', off', c', hv, _, _, _, _, hcell, _⟩ := h.at_ (by omega)
  injection hv with h1 _ _
  injection h1 with h1
  injection h1 with h1 h2 _
  subst h1 h2
  rw [hcell j (by omega), ints_get q n j hj]

theorem below_only {b : Nat} {w w' : World} (hg : w.grownBy w' (some b)) (hb : b ≤ w.heap.size) : Below b w w' :=
  (Below.refl _ _).grown hg hb (fun k h => by cases h; exact Nat.le_refl _)

set_option maxRecDepth 100000 in
set_option maxHeartbeats 1000000 in
theorem linked_walk (bl ol len cap : Nat) (xs : Nat → Int) (w : World) (hlc : len ≤ cap) (hcap : cap ≤ maxLen) (hpos : 0 < len) (hbl : bl < w.heap.size)
    (hx : ∀ i, i < len → w.cell? ⟨bl, ol + i, none⟩ = some (.int .u8 (xs i))) (hx0 : ∀ i, 0 ≤ xs i ∧ xs i ≤ 255) :
    Calls Try.prog 3 #[.slice (some ⟨bl, ol, none⟩) len cap] w fun e w' => e = .returned (.bool true) ∧ Below w.heap.size w w' := by
  unfold maxLen at hcap
  obtain ⟨i0, hi0, hz0, hz1, hz2⟩ := info_parts info3
  have hf1 := field26_1
  have hf2 := field26_2
  go_enter Try.func3, Try.ntmps3
  go_wp2_with fail
  refine (new_any _).mono ?_
  rintro e w1 ⟨rfl, hw1⟩
  obtain ⟨b, hb⟩ : ∃ b, b = w.heap.size := ⟨_, rfl⟩
  have hr0 : w1.rowIs b 72 192 (fv fun _ => 0) := by
    rw [hb, hw1]
    exact (World.rowIs_alloc w zeros192 72 _ fun i hi => by
      simp only [zeros192, Array.size_replicate] at hi
      simp [zeros192, fv, hi])
  have hbe : Below b w w1 := by
    rw [hb, hw1]
    exact (Below.refl _ _).alloc (Nat.le_refl _) _
  have hbl' : bl < b := by omega
  rw [← hb]
  have hbe0 : w.heap.size ≤ b := by omega
  clear hw1 hb
  have hsm0 : Small (fun _ => (0 : Int)) := fun _ => ⟨Int.le_refl _, (by decide : (0 : Int) ≤ 64)⟩
  go_wp2_with fail
  refine (get_none _ 64 _ rfl).mono ?_
  rintro e w2 ⟨rfl, hb2⟩
  have hr1 : w2.rowIs b 72 192 (fv fun _ => 0) := hr0.of_block (hb2.block _ hr0.lt)
  have hbe1 := hbe.trans (hb2.mono (Nat.le_of_lt hr0.lt))
  clear hr0 hbe hb2
  go_wp2_with fail
  refine (get_yes b 0 _ _ (by decide) hr1 hsm0).mono ?_
  rintro e w3 ⟨rfl, hb3⟩
  have hr2 : w3.rowIs b 72 192 (fv fun _ => 0) := hr1.of_block (hb3.block _ hr1.lt)
  have hbe2 := hbe1.trans (hb3.mono (Nat.le_of_lt hr1.lt))
  clear hr1 hbe1 hb3
  go_wp2_with fail
  refine (get_none _ 64 _ rfl).mono ?_
  rintro e w4 ⟨rfl, hb4⟩
  have hr3 : w4.rowIs b 72 192 (fv fun _ => 0) := hr2.of_block (hb4.block _ hr2.lt)
  have hbe3 := hbe2.trans (hb4.mono (Nat.le_of_lt hr2.lt))
  clear hr2 hbe2 hb4
  obtain ⟨N, hN⟩ : ∃ N : Nat, (N : Int) = if (120 : Int) < (len : Int) then (120 : Int) else (len : Int) := ⟨min len 120, by split <;> omega⟩
  have hN1 : N ≤ len := by split at hN <;> omega
  have hN2 : N ≤ 120 := by split at hN <;> omega
  have HN := Lib.hid hN
  clear hN
  go_wp2_with (refine wpList_min (.tmp 31) #[3, 3] 120 len N (by rfl) (by rfl) (by rfl) HN.out ?_)
  go_loopw [4, 5, 35] (LRel w b N) (fun _ _ t _ => N - (intOf t).toNat)
  case atStart => exact ⟨0, 0, _, fun _ => 0, Nat.zero_le _, rfl, rfl, Sl.nil _ _ _ _, hr3, cut_inv1 hsm0, hbe3⟩
  case round =>
    obtain ⟨k, n, f, q, hk, rfl, rfl, hsl, hrow, hinv, hbel⟩ := hrel
    by_cases hlt : k < N
    · have hxk := hx k (by omega)
      rw [← hbel.cell (p := ⟨bl, ol + k, none⟩) hbl'] at hxk
      have hxb := hx0 k
      obtain ⟨x, hxe⟩ : ∃ x, x = xs k := ⟨_, rfl⟩
      rw [← hxe] at hxk hxb
      clear hxe
      obtain ⟨t, ht⟩ : ∃ t : Nat, x % 64 = (t : Int) := ⟨(x % 64).toNat, by omega⟩
      have ht64 : t < 64 := by omega
      have hle := hinv.le
      by_cases hp : x < 160 ∧ ¬ has q n t
      · obtain ⟨h160, hnot⟩ := hp
        rcases Nat.eq_zero_or_pos n with hn0 | hnp
        · subst hn0
          rw [show hd q 0 = -1 from rfl]
          go_wp2_with fail
          refine (contains_any (b + 1) 0 q u4 t _ hsl (by omega)).mono ?_
          rintro e w5 ⟨⟨bb, rfl, hbb⟩, rfl⟩
          have hbf : bb = false := by
            cases bb
            · rfl
            · exact absurd (hbb.1 rfl) hnot
          subst hbf
          have hinv6 := push_inv0 hinv ht64
          clear hbb hnot
          go_wp2_with fail
          refine (push_first b t _ f _ ht64 rfl hrow).mono ?_
          rintro e w5 ⟨rfl, hrow5, hg5⟩
          go_wp2_with fail
          have hrow6 := hrow5.alloc (Obj.cells #[.int .i64 (-1), .int .i64 (-1), .int .i64 t] 26)
          have hsl6 := (hsl.kept hg5 (.inr (hsl.ne (Nat.lt_succ_self b)))).alloc (Obj.cells #[.int .i64 (-1), .int .i64 (-1), .int .i64 t] 26)
          have hb6 : Below b w (w5.alloc (Obj.cells #[.int .i64 (-1), .int .i64 (-1), .int .i64 t] 26)) := (hbel.trans (below_only hg5 (Nat.le_of_lt hrow.lt))).alloc (Nat.le_of_lt hrow5.lt) _
          have d0 := new_cells w5 #[.int .i64 (-1), .int .i64 (-1), .int .i64 t] 26
          generalize w5.alloc (Obj.cells #[.int .i64 (-1), .int .i64 (-1), .int .i64 t] 26) = W at *
          have dd : ∀ w7, Below W.heap.size W w7 → w7.cell? ⟨w5.heap.size, 0, none⟩ = some (.int .i64 (-1)) ∧ w7.cell? ⟨w5.heap.size, 1, none⟩ = some (.int .i64 (-1)) ∧ w7.cell? ⟨w5.heap.size, 2, none⟩ = some (.int .i64 t) :=
            fun w7 h => ⟨d0 w7 h 0, d0 w7 h 1, d0 w7 h 2⟩
          obtain ⟨c0, c1, c2⟩ := dd W (Below.refl _ _)
          clear d0 hg5 hrow5 hsl hrow hbel
          go_region_held3 (fun w' => w'.cell? ⟨w5.heap.size, 0, none⟩ = some (.int .i64 (-1)) ∧ w'.cell? ⟨w5.heap.size, 1, none⟩ = some (.int .i64 (-1)) ∧ w'.cell? ⟨w5.heap.size, 2, none⟩ = some (.int .i64 t)) (first | exact ⟨c0, c1, c2⟩ | exact dd _ ((Below.refl _ _).drew.trans hb7)) (first | (go_at_call 6; refine (get_is b t _ (-1) (-1) t W.drew ht64 hrow6 hinv6.small (by rw [link_0, if_pos rfl] <;> rfl) (by rw [link_1, if_pos rfl] <;> rfl) (by rw [link_2, if_pos rfl] <;> rfl)).mono ?_; rintro e w7 ⟨rfl, hb7⟩))
          have hrow7 : w7.rowIs b 72 192 (fv (link3 f t 0 0 (t + 1))) := hrow6.of_block (hb7.block b hrow6.lt)
          have hsl7 := (hsl6.drew).below hb7
          have hb8 := hb6.drew.trans (hb7.mono (Nat.le_of_lt hrow6.lt))
          clear hb6 hb7 hrow6 hsl6 c0 c1 c2 dd
          simp only [Exit.then]
          go_wp2_with (at_builtin; refine wpList_append_sl _ rfl (.tmp 65) (.tmp 67) 28 rfl (b + 1) 3 i0 (.int .i64 0) 1 8 Try.underlying28 hi0 hz0 hz1 hz2 rfl (by decide) u4 0 _ rfl (hsl7.alloc _) ⟨w7.heap.size, 0, none⟩ 1 1 [.int .i64 t] rfl (by decide) rfl (cell_one_new _ _ _) (by intro u hu; simp at hu; subst hu; rfl) (by unfold maxLen; omega) (by omega) (by have := hrow7.lt; simp; omega) ?_; intro v' w8 hsl8 hg8 hat8)
          have hrow8 := (hrow7.alloc (.cells #[.int .i64 t] 3)).of_block (hg8.block b (by have := hrow7.lt; simp; omega) (fun h => hsl7.ne (Nat.lt_succ_self b) h.symm))
          have hb9 := (hb8.alloc (Nat.le_of_lt hrow7.lt) _).grown hg8 (by have := hrow7.lt; simp; omega) (fun j hj => Nat.le_trans (Nat.le_succ b) (hsl7.own hj))
          go_roundw
          case rel => exact ⟨k + 1, 1, _, snoc q 0 t, by omega, by go_num, by simp [hd, snoc], by rw [ints_snoc]; exact hsl8, hrow8, hinv6, hb9⟩
          case measure => simp [intOf]; omega
        · have hh64 : q (n - 1) < 64 := hinv.lt _ (by omega)
          rw [show hd q n = ((q (n - 1) : Nat) : Int) from if_neg (by omega)]
          go_wp2_with fail
          refine (contains_any (b + 1) n q u4 t _ hsl (by omega)).mono ?_
          rintro e w5 ⟨⟨bb, rfl, hbb⟩, rfl⟩
          have hbf : bb = false := by
            cases bb
            · rfl
            · exact absurd (hbb.1 rfl) hnot
          subst hbf
          have hinv6 := push_inv hinv ht64 hnp hnot
          clear hbb hnot
          go_wp2_with fail
          refine (push_yes b t (q (n - 1)) f _ ht64 hh64 hrow).mono ?_
          rintro e w5 ⟨rfl, hrow5, hg5⟩
          go_wp2_with fail
          have hrow6 := hrow5.alloc (Obj.cells #[.int .i64 (q (n - 1)), .int .i64 (-1), .int .i64 (-1)] 26)
          have hsl6 := (hsl.kept hg5 (.inr (hsl.ne (Nat.lt_succ_self b)))).alloc (Obj.cells #[.int .i64 (q (n - 1)), .int .i64 (-1), .int .i64 (-1)] 26)
          have hb6 : Below b w (w5.alloc (Obj.cells #[.int .i64 (q (n - 1)), .int .i64 (-1), .int .i64 (-1)] 26)) := (hbel.trans (below_only hg5 (Nat.le_of_lt hrow.lt))).alloc (Nat.le_of_lt hrow5.lt) _
          have d0 := new_cells w5 #[.int .i64 (q (n - 1)), .int .i64 (-1), .int .i64 (-1)] 26
          generalize w5.alloc (Obj.cells #[.int .i64 (q (n - 1)), .int .i64 (-1), .int .i64 (-1)] 26) = W at *
          have dd : ∀ w7, Below W.heap.size W w7 → w7.cell? ⟨w5.heap.size, 0, none⟩ = some (.int .i64 (q (n - 1))) ∧ w7.cell? ⟨w5.heap.size, 1, none⟩ = some (.int .i64 (-1)) ∧ w7.cell? ⟨w5.heap.size, 2, none⟩ = some (.int .i64 (-1)) :=
            fun w7 h => ⟨d0 w7 h 0, d0 w7 h 1, d0 w7 h 2⟩
          obtain ⟨c0, c1, c2⟩ := dd W (Below.refl _ _)
          clear d0 hg5 hrow5 hsl hrow hbel
          go_region_held3 (fun w' => w'.cell? ⟨w5.heap.size, 0, none⟩ = some (.int .i64 (q (n - 1))) ∧ w'.cell? ⟨w5.heap.size, 1, none⟩ = some (.int .i64 (-1)) ∧ w'.cell? ⟨w5.heap.size, 2, none⟩ = some (.int .i64 (-1))) (first | exact ⟨c0, c1, c2⟩ | exact dd _ ((Below.refl _ _).drew.trans hb7)) (first | (go_at_call 6; refine (get_is b t _ (q (n - 1)) (-1) (-1) W.drew ht64 hrow6 hinv6.small (by rw [link_0, if_pos rfl] <;> rfl) (by rw [link_1, if_pos rfl] <;> rfl) (by rw [link_2, if_pos rfl] <;> rfl)).mono ?_; rintro e w7 ⟨rfl, hb7⟩))
          have hrow7 : w7.rowIs b 72 192 (fv (link3 f t (q (n - 1) + 1) 0 0)) := hrow6.of_block (hb7.block b hrow6.lt)
          have hsl7 := (hsl6.drew).below hb7
          have hb8 := hb6.drew.trans (hb7.mono (Nat.le_of_lt hrow6.lt))
          clear hb6 hb7 hrow6 hsl6 c0 c1 c2 dd
          simp only [Exit.then]
          go_wp2_with (at_builtin; refine wpList_append_sl _ rfl (.tmp 65) (.tmp 67) 28 rfl (b + 1) 3 i0 (.int .i64 0) 1 8 Try.underlying28 hi0 hz0 hz1 hz2 rfl (by decide) u4 n _ rfl (hsl7.alloc _) ⟨w7.heap.size, 0, none⟩ 1 1 [.int .i64 t] rfl (by decide) rfl (cell_one_new _ _ _) (by intro u hu; simp at hu; subst hu; rfl) (by unfold maxLen; omega) (by omega) (by have := hrow7.lt; simp; omega) ?_; intro v' w8 hsl8 hg8 hat8)
          have hrow8 := (hrow7.alloc (.cells #[.int .i64 t] 3)).of_block (hg8.block b (by have := hrow7.lt; simp; omega) (fun h => hsl7.ne (Nat.lt_succ_self b) h.symm))
          have hb9 := (hb8.alloc (Nat.le_of_lt hrow7.lt) _).grown hg8 (by have := hrow7.lt; simp; omega) (fun j hj => Nat.le_trans (Nat.le_succ b) (hsl7.own hj))
          go_roundw
          case rel => exact ⟨k + 1, (n + 1), _, snoc q n t, by omega, by go_num, by simp [hd, snoc], by rw [ints_snoc]; exact hsl8, hrow8, hinv6, hb9⟩
          case measure => simp [intOf]; omega
      · rcases Nat.eq_zero_or_pos n with hn0 | hnp
        · subst hn0
          have h160 : 160 ≤ x := Int.not_lt.1 fun h => hp ⟨h, fun ⟨i, hi, _⟩ => by omega⟩
          obtain ⟨A, c, rfl, _, _⟩ := hsl.form
          have HS := Lib.hid hsl
          clear hsl hp
          rw [show hd q 0 = -1 from rfl]
          go_wp2_with fail
          refine (seek_no _ _ _ rfl).mono ?_
          rintro e w5 ⟨rfl, rfl⟩
          go_wp2_with fail
          go_roundw
          case rel => exact ⟨k + 1, 0, f, q, by omega, by go_num, rfl, HS.out, hrow, hinv, hbel⟩
          case measure => simp [intOf]; omega
        · have hh64 : q (n - 1) < 64 := hinv.lt _ (by omega)
          have hway : 160 ≤ x ∨ (x < 160 ∧ has q n t) := by
            by_cases h : x < 160
            · exact .inr ⟨h, Classical.byContradiction fun h' => hp ⟨h, h'⟩⟩
            · exact .inl (Int.not_lt.1 h)
          obtain ⟨m, hm, m1, m2, m3, m4⟩ := hinv.tail hnp
          have hsk := seek_inv hinv hm m1 m2 m3 m4
          have hcall := fun W h => seek_yes b f q n m (q 0 + 1) W hnp hle hm hinv.lt (fun i h1 h2 => hinv.next i (by omega) h2) m2 m1 (by omega) (by have := hinv.lt 0 hnp; omega) h
          have HC := Lib.hid hcall
          have hinvlt := hinv.lt
          clear hp m1 m2 m3 m4 hcall hinv
          generalize upd (seekF f q n (n - 1 - m)) (q (n - 1) * 3 + 2) (q 0 + 1) = f' at *
          have hcon := contains_any (b + 1) n q u4 t wr hsl (by omega)
          have HK := Lib.hid hcon
          clear hcon
          obtain ⟨g, off, c, rfl, hnc, hc63, hgb, hgl, hcell, _⟩ := hsl.at_ hnp
          unfold maxLen at hc63
          have hc0 : wr.cell? ⟨g, off, none⟩ = some (.int .i64 (q 0)) := by
            have := hcell 0 (by omega)
            rw [ints_get q n 0 hnp] at this
            simpa using this
          have HS := Lib.hid hsl
          have HCELL := Lib.hid hcell
          clear hsl hcell
          rw [show hd q n = ((q (n - 1) : Nat) : Int) from if_neg (by omega)]
          rcases hway with h160 | ⟨h160, hhas⟩
          case' inl => go_wp2_with fail
          case' inr =>
            go_wp2_with fail
            refine HK.out.mono ?_
            rintro e w5 ⟨⟨bb, rfl, hbb⟩, rfl⟩
            have hbf : bb = true := hbb.2 hhas
            subst hbf
            clear hbb hhas
            go_wp2_with fail
          all_goals
            refine (HC.out _ hrow).mono ?_
            rintro e w5 ⟨rfl, hrow5, hg5⟩
            rw [show ((q 0 : Int) + 1 - 1) = q 0 from by omega]
            have hs5 := HS.out.kept hg5 (.inr (HS.out.ne (Nat.lt_succ_self b)))
            have hb5 : Below b w w5 := hbel.trans (below_only hg5 (Nat.le_of_lt hrow.lt))
            have hc5 : w5.cell? ⟨g, off, none⟩ = some (.int .i64 (q 0)) := by
              rw [World.cell?_of_block (hg5.block g hgl (by simp; omega))]
              exact hc0
            have hgl5 : g < w5.heap.size := Nat.lt_of_lt_of_le hgl hg5.size
            clear hrow hg5 hc0 hbel hgl
            have HS5 := Lib.hid hs5
            clear hs5
            go_wp2_with fail
            refine (get_yes b (q (n - 1)) f' _ hh64 hrow5 hsk.small).mono ?_
            rintro e w6 ⟨rfl, hb6⟩
            rw [hsk.atHead, show ((q 0 : Int) + 1 - 1) = q 0 from by omega]
            have hrow6 : w6.rowIs b 72 192 (fv f') := hrow5.of_block (hb6.block b hrow5.lt)
            have hs6 := HS5.out.below hb6
            have hb7 := hb5.trans (hb6.mono (Nat.le_of_lt hrow5.lt))
            clear hb6 hb5 hrow5 HS5 hc5 hgl5
            have HS6 := Lib.hid hs6
            clear hs6
            go_wp2_with fail
            go_loopw [11, 12, 93] (fun _ _ t W => ∃ j : Nat, j ≤ n ∧ t = .int .i64 j ∧ W.rowIs b 72 192 (fv f') ∧ Sl W (b + 1) 3 1 (.slice (some ⟨g, off, none⟩) n c) n (ints q n) ∧ Below b w W) (fun _ _ t _ => n - (intOf t).toNat)
            case atStart => exact ⟨0, Nat.zero_le _, rfl, hrow6, HS6.out, hb7⟩
            case round =>
              clear hrow6 HS6 hb7
              obtain ⟨j, hj, rfl, hrow7, hs7, hb8⟩ := hrel
              by_cases hjn : j < n
              · have hqj := hinvlt j hjn
                have c0 := sl_int hs7 hjn
                have hsm := hsk.small
                have hpv := hsk.prev j hjn
                by_cases hj1 : j + 1 < n
                · have c1 := sl_int hs7 hj1
                  rw [if_pos hj1] at hpv
                  have HS7 := Lib.hid hs7
                  have HPV := Lib.hid hpv
                  clear hs7 hpv
                  go_wp2_with fail
                  refine (get_yes b (q j) f' _ hqj hrow7 hsm).mono ?_
                  rintro e w8 ⟨rfl, hb9⟩
                  rw [HPV.out, show ((q (j + 1) : Int) + 1 - 1) = q (j + 1) from by omega]
                  have hrow8 : w8.rowIs b 72 192 (fv f') := hrow7.of_block (hb9.block b hrow7.lt)
                  have hs8 := HS7.out.below hb9
                  have hb10 := hb8.trans (hb9.mono (Nat.le_of_lt hrow7.lt))
                  clear hb9 hb8 hrow7 HS7 c0 c1
                  have HS8 := Lib.hid hs8
                  clear hs8
                  go_wp2_with fail
                  go_roundw
                  case rel => exact ⟨j + 1, by omega, by go_num, hrow8, HS8.out, hb10⟩
                  case measure => simp [intOf]; omega
                · rw [if_neg hj1] at hpv
                  have HS7 := Lib.hid hs7
                  have HPV := Lib.hid hpv
                  clear hs7 hpv
                  go_wp2_with fail
                  refine (get_yes b (q j) f' _ hqj hrow7 hsm).mono ?_
                  rintro e w8 ⟨rfl, hb9⟩
                  rw [HPV.out, show ((0 : Int) - 1) = -1 from rfl]
                  have hrow8 : w8.rowIs b 72 192 (fv f') := hrow7.of_block (hb9.block b hrow7.lt)
                  have hs8 := HS7.out.below hb9
                  have hb10 := hb8.trans (hb9.mono (Nat.le_of_lt hrow7.lt))
                  clear hb9 hb8 hrow7 HS7 c0
                  have HS8 := Lib.hid hs8
                  clear hs8
                  go_wp2_with fail
                  go_roundw
                  case rel => exact ⟨j + 1, by omega, by go_num, hrow8, HS8.out, hb10⟩
                  case measure => simp [intOf]; omega
              · by_cases hx4 : x % 4 = 3
                · have hx4' : (x % 4 == 3) = true := by rw [hx4]; rfl
                  have HS7 := Lib.hid hs7
                  clear hx4 hs7
                  go_wp2_with fail
                  go_roundw
                  case rel => exact ⟨k + 1, n, f', q, by omega, by go_num, by rw [hd, if_neg (by omega)], HS7.out, hrow7, hsk.toLInv, hb8⟩
                  case measure => simp [intOf]; omega
                · have hx4' : (x % 4 == 3) = false := by simpa using hx4
                  clear hx4
                  have HS7 := Lib.hid hs7
                  clear hs7
                  by_cases hn1 : n = 1
                  · subst hn1
                    have hsm := hsk.small
                    clear hsk
                    go_wp2_with (refine wpList_tail (by rfl) (.tmp 119) 28 .i64 (by rfl) (b + 1) 3 i0 1 Try.underlying28 hi0 hz1 _ 1 _ (by rfl) HS7.out (by omega) ?_; intro A' c' hcut)
                    go_roundw
                    case rel => exact ⟨k + 1, 0, f', fun i => q (i + 1), by omega, by go_num, rfl, by rw [ints_tail] at hcut; exact hcut, hrow7, cut_inv1 hsm, hb8⟩
                    case measure => simp [intOf]; omega
                  · obtain ⟨hq1, hinv9, htl⟩ := cut_inv hsk (by omega)
                    have hq0 := hinvlt 0 hnp
                    have hq1' := hinvlt 1 (by omega)
                    obtain ⟨p, hpn⟩ : ∃ p, n - 1 = p := ⟨_, rfl⟩
                    have hp0 : 0 < p := by omega
                    have hp63 : p ≤ 63 := by omega
                    have hsm9 := hinv9.small
                    have Hpn := Lib.hid hpn
                    have HT := Lib.hid htl
                    have H1 := Lib.hid hq1
                    clear hsk hinvlt htl hq1 HC
                    rw [hpn] at hh64 hinv9 hsm9 ⊢
                    clear hpn
                    go_wp2_with (refine wpList_tail (by rfl) (.tmp 119) 28 .i64 (by rfl) (b + 1) 3 i0 1 Try.underlying28 hi0 hz1 _ n _ (by rfl) HS7.out (by omega) ?_; intro A' c' hcut; rw [ints_tail, Hpn.out] at hcut; rw [Hpn.out]; obtain ⟨g2, off2, c2, hv2, _, _, hg2, hg2l, hcell2, _⟩ := hcut.at_ hp0; injection hv2 with e1 _ e2; subst e1; subst e2; have d0 := sl_int hcut hp0; have HCUT := Lib.hid hcut; clear hcut hcell2)
                    have e0 : wr.drew.cell? ⟨g2, off2, none⟩ = some (.int .i64 (q 1)) := d0
                    have hrowd := hrow7.drew
                    have hb9 := hb8.drew
                    have hgl9 : g2 < wr.drew.heap.size := hg2l
                    clear hrow7 hb8 hg2l
                    go_region_held3 (fun w' => w'.cell? ⟨g2, off2, none⟩ = some (.int .i64 (q 1))) (first | exact e0 | exact e1 | exact e2) (first | (go_at_call 10; refine (cut_is b (q p) (q 0) f' (q 1) _ hh64 hq0 hrowd H1.out (by omega) (by omega)).mono ?_; rintro e w8 ⟨rfl, hrow8, hg8⟩; have e1 : w8.cell? ⟨g2, off2, none⟩ = some (.int .i64 (q 1)) := (World.cell?_of_block (hg8.block g2 hgl9 (by simp; omega))).trans e0) | (go_at_call 6; refine (get_is b (q p) _ (upd f' (q p * 3 + 2) (q 1 + 1) (q p * 3) - 1) (upd f' (q p * 3 + 2) (q 1 + 1) (q p * 3 + 1) - 1) (q 1) _ hh64 hrow8 hsm9 (by omega) (by omega) (by have := HT.out; rw [Hpn.out] at this; exact this)).mono ?_; rintro e w9 ⟨rfl, hb10⟩; have e2 : w9.cell? ⟨g2, off2, none⟩ = some (.int .i64 (q 1)) := (hb10.cell (Nat.lt_of_lt_of_le hgl9 hg8.size)).trans e1))
                    have hlt8 : b < w8.heap.size := hrow8.lt
                    have hrow9 := hrow8.of_block (hb10.block b hlt8)
                    have hcut9 := (HCUT.out.drew.kept hg8 (.inr (HCUT.out.ne (Nat.lt_succ_self b)))).below hb10
                    have hb11 := (hb9.trans (below_only hg8 (Nat.le_of_lt hrowd.lt))).trans (hb10.mono (Nat.le_of_lt hlt8))
                    clear hb10 hg8 hrow8 hrowd hb9 e0 e1 e2 d0
                    simp only [Exit.then]
                    go_wp2_with fail
                    go_roundw
                    case rel => exact ⟨k + 1, p, _, fun i => q (i + 1), by omega, by go_num, by rw [hd, if_neg (by omega), show p - 1 + 1 = p from by omega], hcut9, hrow9, hinv9, hb11⟩
                    case measure => simp [intOf]; omega
    · have hbelow : Below w.heap.size w wr := hbel.mono hbe0
      clear hbel hrow hsl hinv hx hx0
      go_wp2_with fail
      refine (push_none _ _ _ _ rfl).mono ?_
      rintro e w5 ⟨rfl, rfl⟩
      go_wp2_with fail
      refine (seek_no _ _ _ rfl).mono ?_
      rintro e w5 ⟨rfl, rfl⟩
      go_wp2_with fail
      refine (seek_no _ _ _ rfl).mono ?_
      rintro e w5 ⟨rfl, rfl⟩
      go_wp2_with fail
      refine (cut_none _ _ _ _ rfl rfl).mono ?_
      rintro e w5 ⟨rfl, rfl⟩
      go_wp2_with fail
      go_ret
      exact ⟨rfl, hbelow⟩

end Go.Proofs.YtpnpjiaciolgiaaR
