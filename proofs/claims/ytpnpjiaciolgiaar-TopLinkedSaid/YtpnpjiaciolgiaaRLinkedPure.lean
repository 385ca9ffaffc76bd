/- The plain law of TopLinked: what the records say while a queue is linked, sought and cut. -/
import Derived.Test.YtpnpjiaciolgiaaRLinks
import Derived.Test.YtpnpjiaciolgiaaRIndex
namespace Go.Proofs.YtpnpjiaciolgiaaR

structure LInv (f : Nat → Int) (q : Nat → Nat) (n : Nat) : Prop where
  small : Small f
  lt : ∀ i, i < n → q i < 64
  inj : ∀ i j, i < n → j < n → q i = q j → i = j
  next : ∀ i, 1 ≤ i → i < n → f (q i * 3) = q (i - 1) + 1
  tail : 0 < n → ∃ m, m < n ∧ f (q m * 3 + 2) = q 0 + 1 ∧ (∀ i, m < i → i < n → f (q i * 3 + 2) = 0) ∧ (∀ i, i < m → f (q i * 3 + 1) = q (i + 1) + 1) ∧ (∀ i, m ≤ i → i < n → f (q i * 3 + 1) = 0)

/-- As many different numbers below N as there are, at most. -/
theorem pigeons : ∀ (N n : Nat) (q : Nat → Nat), (∀ i, i < n → q i < N) → (∀ i j, i < n → j < n → q i = q j → i = j) → n ≤ N := by
  intro N
  induction N with
  | zero =>
    intro n q hq _
    rcases Nat.eq_zero_or_pos n with h | h
    · omega
    · exact absurd (hq 0 h) (Nat.not_lt_zero _)
  | succ N ih =>
    intro n q hq hinj
    by_cases hN : ∃ i, i < n ∧ q i = N
    · obtain ⟨i, hi, hiN⟩ := hN
      have := ih (n - 1) (fun j => if j = i then q (n - 1) else q j) (fun j hj => by
        have hlast : n - 1 < n := by omega
        by_cases e : j = i
        · simp only [e, if_true]
          have h1 := hq (n - 1) hlast
          have h2 : q (n - 1) ≠ N := fun h => by
            have := hinj (n - 1) i hlast hi (by rw [h, hiN])
            omega
          omega
        · simp only [e, if_false]
          have h1 := hq j (by omega)
          have h2 : q j ≠ N := fun h => e (hinj j i (by omega) hi (by rw [h, hiN]))
          omega) (fun j k hj hk hjk => by
        have hlast : n - 1 < n := by omega
        by_cases e : j = i <;> by_cases e' : k = i
        · omega
        · simp only [e, e', if_true, if_false] at hjk
          have := hinj (n - 1) k hlast (by omega) hjk
          omega
        · simp only [e, e', if_true, if_false] at hjk
          have := hinj j (n - 1) (by omega) hlast hjk
          omega
        · simp only [e, e', if_false] at hjk
          exact hinj j k (by omega) (by omega) hjk)
      omega
    · have := ih n q (fun i hi => by
        have h1 := hq i hi
        have h2 : q i ≠ N := fun h => hN ⟨i, hi, h⟩
        omega) hinj
      omega

theorem LInv.le {f : Nat → Int} {q : Nat → Nat} {n : Nat} (h : LInv f q n) : n ≤ 64 := pigeons 64 n q h.lt h.inj

def snoc (q : Nat → Nat) (n t : Nat) : Nat → Nat := fun i => if i = n then t else q i
theorem snoc_lt {q : Nat → Nat} {n t i : Nat} (h : i < n) : snoc q n t i = q i := by simp [snoc]; omega
theorem snoc_eq {q : Nat → Nat} {n t : Nat} : snoc q n t n = t := by simp [snoc]
theorem ints_snoc (q : Nat → Nat) (n t : Nat) : ints (snoc q n t) (n + 1) = ints q n ++ [.int .i64 t] := by
  simp only [ints, List.range_succ, List.map_append, List.map_cons, List.map_nil, snoc_eq]
  congr 1
  exact List.map_congr_left fun i hi => by rw [snoc_lt (List.mem_range.1 hi)]

def hd (q : Nat → Nat) (n : Nat) : Int := if n = 0 then -1 else q (n - 1)

theorem small_upd {f : Nat → Int} (h : Small f) (j : Nat) (v : Int) (h0 : 0 ≤ v) (h1 : v ≤ 64) : Small (upd f j v) := fun k => by
  unfold upd
  split
  · exact ⟨h0, h1⟩
  · exact h k
theorem small_link {f : Nat → Int} (h : Small f) (t : Nat) (x y z : Int) (hx : 0 ≤ x ∧ x ≤ 64) (hy : 0 ≤ y ∧ y ≤ 64) (hz : 0 ≤ z ∧ z ≤ 64) : Small (link3 f t x y z) :=
  small_upd (small_upd (small_upd h _ _ hx.1 hx.2) _ _ hy.1 hy.2) _ _ hz.1 hz.2

theorem link_0 (f : Nat → Int) (t j : Nat) (x y z : Int) : link3 f t x y z (j * 3) = if j = t then x else f (j * 3) := by
  unfold link3 upd
  rw [if_neg (by omega), if_neg (by omega)]
  by_cases h : j = t
  · rw [if_pos (by omega), if_pos h]
  · rw [if_neg (by omega), if_neg h]
theorem link_1 (f : Nat → Int) (t j : Nat) (x y z : Int) : link3 f t x y z (j * 3 + 1) = if j = t then y else f (j * 3 + 1) := by
  unfold link3 upd
  rw [if_neg (by omega)]
  by_cases h : j = t
  · rw [if_pos (by omega), if_pos h]
  · rw [if_neg (by omega), if_neg (by omega), if_neg h]
theorem link_2 (f : Nat → Int) (t j : Nat) (x y z : Int) : link3 f t x y z (j * 3 + 2) = if j = t then z else f (j * 3 + 2) := by
  unfold link3 upd
  by_cases h : j = t
  · rw [if_pos (by omega), if_pos h]
  · rw [if_neg (by omega), if_neg (by omega), if_neg (by omega), if_neg h]

theorem push_inv0 {f : Nat → Int} {q : Nat → Nat} {t : Nat} (h : LInv f q 0) (ht : t < 64) : LInv (link3 f t 0 0 (t + 1)) (snoc q 0 t) 1 where
  small := small_link h.small _ _ _ _ (by omega) (by omega) (by omega)
  lt i hi := by
    obtain rfl : i = 0 := by omega
    rw [snoc_eq]; exact ht
  inj i j hi hj _ := by omega
  next i h1 h2 := by omega
  tail _ := ⟨0, by omega, by rw [snoc_eq, link_2, if_pos rfl], fun i h1 h2 => by omega, fun i h => by omega, fun i h1 h2 => by
    obtain rfl : i = 0 := by omega
    rw [snoc_eq, link_1, if_pos rfl]⟩

theorem push_inv {f : Nat → Int} {q : Nat → Nat} {n t : Nat} (h : LInv f q n) (ht : t < 64) (hn : 0 < n) (hnot : ¬ has q n t) : LInv (link3 f t (q (n - 1) + 1) 0 0) (snoc q n t) (n + 1) where
  small := small_link h.small _ _ _ _ (by have := h.lt (n - 1) (by omega); omega) (by omega) (by omega)
  lt i hi := by
    by_cases e : i = n
    · rw [e, snoc_eq]; exact ht
    · rw [snoc_lt (by omega)]; exact h.lt i (by omega)
  inj i j hi hj hij := by
    by_cases e : i = n <;> by_cases e' : j = n
    · omega
    · rw [e, snoc_eq, snoc_lt (by omega)] at hij
      exact absurd ⟨j, by omega, hij.symm⟩ hnot
    · rw [e', snoc_eq, snoc_lt (by omega)] at hij
      exact absurd ⟨i, by omega, hij⟩ hnot
    · rw [snoc_lt (by omega), snoc_lt (by omega)] at hij
      exact h.inj i j (by omega) (by omega) hij
  next i h1 h2 := by
    by_cases e : i = n
    · rw [e, snoc_eq, snoc_lt (by omega), link_0, if_pos rfl]
    · rw [snoc_lt (by omega), snoc_lt (by omega), link_0, if_neg (fun e' => hnot ⟨i, by omega, e'⟩)]
      exact h.next i h1 (by omega)
  tail _ := by
    obtain ⟨m, hm, h1, h2, h3, h4⟩ := h.tail hn
    have hne : ∀ i, i < n → q i ≠ t := fun i hi e => hnot ⟨i, hi, e⟩
    refine ⟨m, by omega, ?_, fun i ha hb => ?_, fun i ha => ?_, fun i ha hb => ?_⟩
    · rw [snoc_lt hm, snoc_lt hn, link_2, if_neg (hne m hm)]; exact h1
    · by_cases e : i = n
      · rw [e, snoc_eq, link_2, if_pos rfl]
      · rw [snoc_lt (by omega), link_2, if_neg (hne i (by omega))]; exact h2 i ha (by omega)
    · rw [snoc_lt (by omega), snoc_lt (by omega), link_1, if_neg (hne i (by omega))]; exact h3 i ha
    · by_cases e : i = n
      · rw [e, snoc_eq, link_1, if_pos rfl]
      · rw [snoc_lt (by omega), link_1, if_neg (hne i (by omega))]; exact h4 i ha (by omega)

/-- Behind Seek: what one asks of the records. -/
structure LSeek (f : Nat → Int) (q : Nat → Nat) (n : Nat) : Prop extends LInv f q n where
  atHead : f (q (n - 1) * 3 + 2) = q 0 + 1
  prev : ∀ i, i < n → f (q i * 3 + 1) = if i + 1 < n then (q (i + 1) : Int) + 1 else 0

theorem seekF_small {f : Nat → Int} {q : Nat → Nat} {n : Nat} (h : Small f) (hq : ∀ i, i < n → q i < 64) (hn : 0 < n) (k : Nat) : Small (seekF f q n k) := by
  induction k with
  | zero => exact h
  | succ k ih => exact small_upd ih _ _ (by omega) (by have := hq (n - 1 - k) (by omega); omega)

/-- The record that is passed at step j knows who came next. -/
theorem seekF_1 {f : Nat → Int} {q : Nat → Nat} {n : Nat} (hinj : ∀ i j, i < n → j < n → q i = q j → i = j) (k i : Nat) (hi : i < n) (hk : k < n) :
    seekF f q n k (q i * 3 + 1) = if n - 1 - k ≤ i ∧ i + 1 < n then (q (i + 1) : Int) + 1 else f (q i * 3 + 1) := by
  induction k with
  | zero => rw [if_neg (by omega)]; rfl
  | succ k ih =>
    simp only [seekF, upd]
    have ih := ih (by omega)
    by_cases e : i = n - 2 - k
    · rw [if_pos (by rw [e]), if_pos (by omega), show n - 1 - k = i + 1 from by omega]
    · rw [if_neg (fun h => e (hinj i _ hi (by omega) (by omega))), ih]
      by_cases h : n - 1 - k ≤ i ∧ i + 1 < n
      · rw [if_pos h, if_pos (by omega)]
      · rw [if_neg h, if_neg (by omega)]

theorem seek_inv {f : Nat → Int} {q : Nat → Nat} {n m : Nat} (h : LInv f q n) (hm : m < n) (_h1 : f (q m * 3 + 2) = q 0 + 1) (_h2 : ∀ i, m < i → i < n → f (q i * 3 + 2) = 0)
    (h3 : ∀ i, i < m → f (q i * 3 + 1) = q (i + 1) + 1) (h4 : ∀ i, m ≤ i → i < n → f (q i * 3 + 1) = 0) :
    LSeek (upd (seekF f q n (n - 1 - m)) (q (n - 1) * 3 + 2) (q 0 + 1)) q n := by
  have hq0 := h.lt 0 (by omega)
  have prev : ∀ i, i < n → upd (seekF f q n (n - 1 - m)) (q (n - 1) * 3 + 2) (q 0 + 1) (q i * 3 + 1) = if i + 1 < n then (q (i + 1) : Int) + 1 else 0 := by
    intro i hi
    unfold upd
    rw [if_neg (by omega), seekF_1 h.inj _ _ hi (by omega)]
    by_cases e : i + 1 < n
    · rw [if_pos e]
      by_cases e' : n - 1 - (n - 1 - m) ≤ i
      · rw [if_pos ⟨e', e⟩]
      · rw [if_neg (by omega)]
        exact h3 i (by omega)
    · rw [if_neg e, if_neg (by omega)]
      exact h4 i (by omega) hi
  have head : upd (seekF f q n (n - 1 - m)) (q (n - 1) * 3 + 2) (q 0 + 1) (q (n - 1) * 3 + 2) = q 0 + 1 := by simp [upd]
  refine { small := small_upd (seekF_small h.small h.lt (by omega) _) _ _ (by omega) (by omega), lt := h.lt, inj := h.inj, next := fun i ha hb => ?_, tail := fun _ => ?_, atHead := head, prev := prev }
  · unfold upd
    rw [if_neg (by omega), seekF_0]
    exact h.next i ha hb
  · refine ⟨n - 1, by omega, head, fun i ha hb => by omega, fun i ha => ?_, fun i ha hb => ?_⟩
    · rw [prev i (by omega), if_pos (by omega)]
    · rw [prev i hb, if_neg (by omega)]

/-- Cut off: the first one is gone. -/
theorem cut_inv {f : Nat → Int} {q : Nat → Nat} {n : Nat} (h : LSeek f q n) (hn : 2 ≤ n) :
    f (q 0 * 3 + 1) = q 1 + 1 ∧ LInv (upd f (q (n - 1) * 3 + 2) (q 1 + 1)) (fun i => q (i + 1)) (n - 1) ∧ upd f (q (n - 1) * 3 + 2) (q 1 + 1) (q (n - 1) * 3 + 2) = q 1 + 1 := by
  have hq1 := h.lt 1 (by omega)
  have h0 : f (q 0 * 3 + 1) = q 1 + 1 := by rw [h.prev 0 (by omega), if_pos (by omega)]
  have head : upd f (q (n - 1) * 3 + 2) (q 1 + 1) (q (n - 1) * 3 + 2) = q 1 + 1 := by simp [upd]
  refine ⟨h0, { small := small_upd h.small _ _ (by omega) (by omega), lt := fun i hi => h.lt _ (by omega), inj := fun i j hi hj e => ?_, next := fun i ha hb => ?_, tail := fun _ => ?_ }, head⟩
  · have := h.inj _ _ (by omega) (by omega) e
    omega
  · simp only [upd]
    rw [if_neg (by omega), h.next (i + 1) (by omega) (by omega), show i + 1 - 1 = i - 1 + 1 from by omega]
  · refine ⟨n - 2, by omega, ?_, fun i ha hb => by omega, fun i ha => ?_, fun i ha hb => ?_⟩
    · simp only [show n - 2 + 1 = n - 1 from by omega]; exact head
    · simp only [upd]
      rw [if_neg (by omega), h.prev (i + 1) (by omega), if_pos (by omega)]
    · simp only [upd]
      rw [if_neg (by omega), h.prev (i + 1) (by omega), if_neg (by omega)]

theorem cut_inv1 {f : Nat → Int} {q : Nat → Nat} (h : Small f) : LInv f q 0 :=
  { small := h, lt := fun i hi => by omega, inj := fun i j hi => by omega, next := fun i h1 h2 => by omega, tail := fun h => by omega }

theorem ints_tail (q : Nat → Nat) (n : Nat) : (ints q n).drop (1 * 1) = ints (fun i => q (i + 1)) (n - 1) := by
  apply List.ext_getElem?
  intro i
  rw [List.getElem?_drop]
  by_cases h : i < n - 1
  · rw [ints_get _ _ _ h, ints_get _ _ _ (by omega), show 1 * 1 + i = i + 1 from by omega]
  · rw [List.getElem?_eq_none (by rw [ints_len]; omega), List.getElem?_eq_none (by rw [ints_len]; omega)]

end Go.Proofs.YtpnpjiaciolgiaaR
