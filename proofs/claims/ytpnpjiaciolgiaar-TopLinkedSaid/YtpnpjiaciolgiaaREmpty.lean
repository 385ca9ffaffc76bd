/- TopLinked at an empty slice: the walk. -/
import Derived.Test.YtpnpjiaciolgiaaRLinked
namespace Go.Proofs.YtpnpjiaciolgiaaR
open Go.RowKit

set_option maxRecDepth 100000 in
set_option maxHeartbeats 1000000 in
theorem linked_empty (A : Option Addr) (cap : Nat) (w : World) :
    Calls Try.prog 3 #[.slice A 0 cap] w fun e w' => e = .returned (.bool true) ∧ Below w.heap.size w w' := by
  go_enter Try.func3, Try.ntmps3
  go_wp2_with fail
  refine (new_any _).mono ?_
  rintro e w1 ⟨rfl, hw1⟩
  obtain ⟨b, hb⟩ : ∃ b, b = w.heap.size := ⟨_, rfl⟩
  have hr0 : w1.rowIs b 72 192 (fv fun _ => 0) := by
    rw [hb, hw1]
    exact (World.rowIs_alloc w zeros192 72 _ fun i hi => by
      simp only [zeros192, Array.size_replicate] at hi
      simp [zeros192, fv, hi])
  have hbe : Below b w w1 := by
    rw [hb, hw1]
    exact (Below.refl _ _).alloc (Nat.le_refl _) _
  rw [← hb]
  have hbe0 : w.heap.size ≤ b := by omega
  clear hw1 hb
  have hsm0 : Small (fun _ => (0 : Int)) := fun _ => ⟨Int.le_refl _, (by decide : (0 : Int) ≤ 64)⟩
  go_wp2_with fail
  refine (get_none _ 64 _ rfl).mono ?_
  rintro e w2 ⟨rfl, hb2⟩
  have hr1 : w2.rowIs b 72 192 (fv fun _ => 0) := hr0.of_block (hb2.block _ hr0.lt)
  have hbe1 := hbe.trans (hb2.mono (Nat.le_of_lt hr0.lt))
  clear hr0 hbe hb2
  go_wp2_with fail
  refine (get_yes b 0 _ _ (by decide) hr1 hsm0).mono ?_
  rintro e w3 ⟨rfl, hb3⟩
  have hr2 : w3.rowIs b 72 192 (fv fun _ => 0) := hr1.of_block (hb3.block _ hr1.lt)
  have hbe2 := hbe1.trans (hb3.mono (Nat.le_of_lt hr1.lt))
  clear hr1 hbe1 hb3
  go_wp2_with fail
  refine (get_none _ 64 _ rfl).mono ?_
  rintro e w4 ⟨rfl, hb4⟩
  have hbe3 := hbe2.trans (hb4.mono (Nat.le_of_lt hr2.lt))
  have hbelow : Below w.heap.size w w4 := hbe3.mono hbe0
  clear hr2 hbe2 hb4 hbe3
  go_wp2_with fail
  refine wp_loop_rounds 1 ?_
  rw [rounds_succ]
  go_wp2_with fail
  refine (push_none _ _ _ _ rfl).mono ?_
  rintro e w5 ⟨rfl, rfl⟩
  go_wp2_with fail
  refine (seek_no _ _ _ rfl).mono ?_
  rintro e w5 ⟨rfl, rfl⟩
  go_wp2_with fail
  refine (seek_no _ _ _ rfl).mono ?_
  rintro e w5 ⟨rfl, rfl⟩
  go_wp2_with fail
  refine (cut_none _ _ _ _ rfl rfl).mono ?_
  rintro e w5 ⟨rfl, rfl⟩
  go_wp2_with fail
  go_ret
  exact ⟨rfl, hbelow⟩

end Go.Proofs.YtpnpjiaciolgiaaR
