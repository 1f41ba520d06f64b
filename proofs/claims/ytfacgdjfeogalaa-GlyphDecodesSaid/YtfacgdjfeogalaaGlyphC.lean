/- Walks: the bytes of a character, and what a place may hold. -/
import Derived.Test.YtfacgdjfeogalaaMem
import Derived.Test.YtfacgdjfeogalaaGlyphA
import Derived.Deep.QuietTactic
import Derived.BigQuiet
namespace Go.Proofs.Ytfacgdjfeogalaa
open Go.RowKit

/-- The bytes of a character, as numbers. -/
def bytesOf (c : Int) : List Int :=
  if c < 128 then [c] else if c < 2048 then [192 + c / 64, 128 + c % 64]
  else if c < 65536 then [224 + c / 4096, 128 + c / 64 % 64, 128 + c % 64]
  else [240 + c / 262144, 128 + c / 4096 % 64, 128 + c / 64 % 64, 128 + c % 64]

set_option maxHeartbeats 1000000 in
theorem one_any (c : Int) (w : World) (h0 : 0 ≤ c) (h1 : c ≤ 1114111) :
    Calls Try.prog 18 #[.int .i64 c] w (RetSlI .u8 (bytesOf c) w) := by
  go_enter Try.func18, Try.ntmps18
  go_wp2
  all_goals go_ret
  all_goals first | rw [bytesOf, if_pos (by omega)] | rw [bytesOf, if_neg (by omega), if_pos (by omega)] | rw [bytesOf, if_neg (by omega), if_neg (by omega), if_pos (by omega)] | rw [bytesOf, if_neg (by omega), if_neg (by omega), if_neg (by omega)]
  all_goals exact ⟨_, rfl, SlI.made (heap_alloc_new _ _) rfl (Nat.le_refl _), (Ext.refl _).alloc _⟩

/-- The byte at a place, as a number. -/
def bt (s : ByteArray) (i : Nat) : Int := if h : i < s.size then ((s[i]'h).toNat : Int) else 0
theorem bt_eq (s : ByteArray) (i : Nat) (h : i < s.size) : bt s i = ((s[i]'h).toNat : Int) := by simp [bt, h]
theorem bt_le (s : ByteArray) (i : Nat) : 0 ≤ bt s i ∧ bt s i ≤ 255 := by
  unfold bt; split
  · rename_i h; have := (s[i]'h).toNat_lt; omega
  · omega
/-- What the first byte says: its bits, and how many bytes there are. -/
def lead (b : Int) : Int × Nat :=
  if 240 ≤ b then (b - 240, 4) else if 224 ≤ b then (b - 224, 3) else if 192 ≤ b then (b - 192, 2) else if 128 ≤ b then (0, 0) else (b, 1)
/-- Six bits more with each byte. -/
def acc (s : ByteArray) (k : Nat) (c0 : Int) : Nat → Int
  | 0 => c0
  | i + 1 => 64 * acc s k c0 i + bt s (k + (i + 1)) - 128
/-- Are the next so many bytes each from 80 to BF? -/
def conts (s : ByteArray) (k : Nat) : Nat → Bool
  | 0 => true
  | i + 1 => conts s k i && decide (128 ≤ bt s (k + (i + 1)) ∧ bt s (k + (i + 1)) ≤ 191)
/-- The character that may stand at a place, and how many bytes it has. -/
def guessC (s : ByteArray) (k : Nat) : Int × Nat :=
  if (lead (bt s k)).2 = 0 then (0, 0)
  else if k + (lead (bt s k)).2 ≤ s.size && conts s k ((lead (bt s k)).2 - 1) then (acc s k (lead (bt s k)).1 ((lead (bt s k)).2 - 1), (lead (bt s k)).2) else (0, 0)

theorem acc_bd (s : ByteArray) (k : Nat) (c0 : Int) (i : Nat) (h0 : 0 ≤ c0) (h1 : c0 ≤ 127) (hi : i ≤ 3) (hc : conts s k i = true) : 0 ≤ acc s k c0 i ∧ acc s k c0 i ≤ 33554431 := by
  have h : ∀ j, conts s k j = true → 0 ≤ acc s k c0 j ∧ acc s k c0 j ≤ 128 * 64 ^ j - 1 := by
    intro j
    induction j with
    | zero => intro _; simp [acc]; omega
    | succ j ih =>
      intro hc
      simp only [conts, Bool.and_eq_true, decide_eq_true_eq] at hc
      have := ih hc.1
      simp only [acc, Int.pow_succ]
      omega
  have := h i hc
  have hp : (64 : Int) ^ i ≤ 64 ^ 3 := by
    have : i = 0 ∨ i = 1 ∨ i = 2 ∨ i = 3 := by omega
    rcases this with rfl | rfl | rfl | rfl <;> decide
  omega

theorem conts_false (s : ByteArray) (k j n : Nat) (hj : j < n) (h : ¬ (128 ≤ bt s (k + (j + 1)) ∧ bt s (k + (j + 1)) ≤ 191)) : conts s k n = false := by
  induction n with
  | zero => omega
  | succ n ih =>
    simp only [conts]
    by_cases e : j = n
    · subst e; rw [decide_eq_false h, Bool.and_false]
    · rw [ih (by omega), Bool.false_and]
theorem conts_succ (s : ByteArray) (k j : Nat) (hc : conts s k j = true) (h : 128 ≤ bt s (k + (j + 1)) ∧ bt s (k + (j + 1)) ≤ 191) : conts s k (j + 1) = true := by
  simp only [conts, hc, Bool.true_and, decide_eq_true_eq]; exact h
theorem two_ints {a b : Int} {c d : Int} (h : a = c) (h' : b = d) : Ending.returned (.tuple #[.int .i64 a, .int .i64 b]) = .returned (.tuple #[.int .i64 c, .int .i64 d]) := by rw [h, h']

set_option maxHeartbeats 1000000 in
theorem guess_4 (s : ByteArray) (k : Nat) (w : World) (h : k < s.size) (hm : s.size ≤ 140737488355328) (b : Int) (hb : (s[k].toNat : Int) = b) (hlo : 240 ≤ b) (hhi : b ≤ 255) :
    Calls Try.prog 17 #[.string s, .int .i64 k] w fun e w' => e = .returned (.tuple #[.int .i64 (guessC s k).1, .int .i64 (guessC s k).2]) ∧ w = w' := by
  have hld : lead (bt s k) = (b - 240, 4) := by rw [bt_eq s k h, hb]; simp only [lead]; rw [if_pos (by omega)]
  have hg : guessC s k = if k + 4 ≤ s.size && conts s k 3 then (acc s k (b - 240) 3, 4) else (0, 0) := by simp [guessC, hld]
  have Hg := Lib.hid hg
  clear hg hld
  generalize hG : guessC s k = G at *
  clear hG
  by_cases hroom : k + 4 ≤ s.size
  · go_enter Try.func17, Try.ntmps17
    go_wp2
    go_loop [6, 8] (fun c i => ∃ j : Nat, j ≤ 3 ∧ i = .int .i64 (j + 1 : Nat) ∧ c = .int .i64 (acc s k (b - 240) j) ∧ conts s k j = true) (fun _ i => 4 - (intOf i).toNat)
    case atStart => exact ⟨0, by omega, rfl, rfl, rfl⟩
    case round =>
      obtain ⟨j, hj, rfl, rfl, hc⟩ := hrel
      have Hc := Lib.hid hc
      have hbd := acc_bd s k (b - 240) j (by omega) (by omega) (by omega) hc
      clear hc
      by_cases hlt : j < 3
      · have hin : k + (j + 1) < s.size := by omega
        have hby := (s[k + (j + 1)]'hin).toNat_lt
        have Hbt := Lib.hid (bt_eq s _ hin)
        go_wp2
        · go_ret2
          have hF := conts_false s k j 3 hlt (by rw [Hbt.out]; omega)
          exact ⟨by rw [Hg.out, hF]; simp, rfl⟩
        · go_round
          case rel => exact ⟨j + 1, by omega, by go_num, by rw [acc, Hbt.out], conts_succ s k j Hc.out (by rw [Hbt.out]; omega)⟩
          case measure => simp [intOf]; omega
        · go_ret2
          have hF := conts_false s k j 3 hlt (by rw [Hbt.out]; omega)
          exact ⟨by rw [Hg.out, hF]; simp, rfl⟩
      · go_wp2
        go_ret2
        have hj3 : j = 3 := by omega
        exact ⟨by rw [Hg.out]; rw [hj3] at Hc ⊢; rw [if_pos (by rw [Hc.out]; simp; omega)]; rfl, rfl⟩
  · go_enter Try.func17, Try.ntmps17
    go_wp2
    go_ret2
    exact ⟨by rw [Hg.out, if_neg (by simp; omega)]; rfl, rfl⟩

set_option maxHeartbeats 1000000 in
theorem guess_3 (s : ByteArray) (k : Nat) (w : World) (h : k < s.size) (hm : s.size ≤ 140737488355328) (b : Int) (hb : (s[k].toNat : Int) = b) (hlo : 224 ≤ b) (hhi : b ≤ 239) :
    Calls Try.prog 17 #[.string s, .int .i64 k] w fun e w' => e = .returned (.tuple #[.int .i64 (guessC s k).1, .int .i64 (guessC s k).2]) ∧ w = w' := by
  have hld : lead (bt s k) = (b - 224, 3) := by rw [bt_eq s k h, hb]; simp only [lead]; rw [if_neg (by omega), if_pos (by omega)]
  have hg : guessC s k = if k + 3 ≤ s.size && conts s k 2 then (acc s k (b - 224) 2, 3) else (0, 0) := by simp [guessC, hld]
  have Hg := Lib.hid hg
  clear hg hld
  generalize hG : guessC s k = G at *
  clear hG
  by_cases hroom : k + 3 ≤ s.size
  · go_enter Try.func17, Try.ntmps17
    go_wp2
    go_loop [6, 8] (fun c i => ∃ j : Nat, j ≤ 2 ∧ i = .int .i64 (j + 1 : Nat) ∧ c = .int .i64 (acc s k (b - 224) j) ∧ conts s k j = true) (fun _ i => 3 - (intOf i).toNat)
    case atStart => exact ⟨0, by omega, rfl, rfl, rfl⟩
    case round =>
      obtain ⟨j, hj, rfl, rfl, hc⟩ := hrel
      have Hc := Lib.hid hc
      have hbd := acc_bd s k (b - 224) j (by omega) (by omega) (by omega) hc
      clear hc
      by_cases hlt : j < 2
      · have hin : k + (j + 1) < s.size := by omega
        have hby := (s[k + (j + 1)]'hin).toNat_lt
        have Hbt := Lib.hid (bt_eq s _ hin)
        go_wp2
        · go_ret2
          have hF := conts_false s k j 2 hlt (by rw [Hbt.out]; omega)
          exact ⟨by rw [Hg.out, hF]; simp, rfl⟩
        · go_round
          case rel => exact ⟨j + 1, by omega, by go_num, by rw [acc, Hbt.out], conts_succ s k j Hc.out (by rw [Hbt.out]; omega)⟩
          case measure => simp [intOf]; omega
        · go_ret2
          have hF := conts_false s k j 2 hlt (by rw [Hbt.out]; omega)
          exact ⟨by rw [Hg.out, hF]; simp, rfl⟩
      · go_wp2
        go_ret2
        have hj3 : j = 2 := by omega
        exact ⟨by rw [Hg.out]; rw [hj3] at Hc ⊢; rw [if_pos (by rw [Hc.out]; simp; omega)]; rfl, rfl⟩
  · go_enter Try.func17, Try.ntmps17
    go_wp2
    go_ret2
    exact ⟨by rw [Hg.out, if_neg (by simp; omega)]; rfl, rfl⟩

set_option maxHeartbeats 1000000 in
theorem guess_2 (s : ByteArray) (k : Nat) (w : World) (h : k < s.size) (hm : s.size ≤ 140737488355328) (b : Int) (hb : (s[k].toNat : Int) = b) (hlo : 192 ≤ b) (hhi : b ≤ 223) :
    Calls Try.prog 17 #[.string s, .int .i64 k] w fun e w' => e = .returned (.tuple #[.int .i64 (guessC s k).1, .int .i64 (guessC s k).2]) ∧ w = w' := by
  have hld : lead (bt s k) = (b - 192, 2) := by rw [bt_eq s k h, hb]; simp only [lead]; rw [if_neg (by omega), if_neg (by omega), if_pos (by omega)]
  have hg : guessC s k = if k + 2 ≤ s.size && conts s k 1 then (acc s k (b - 192) 1, 2) else (0, 0) := by simp [guessC, hld]
  have Hg := Lib.hid hg
  clear hg hld
  generalize hG : guessC s k = G at *
  clear hG
  by_cases hroom : k + 2 ≤ s.size
  · go_enter Try.func17, Try.ntmps17
    go_wp2
    go_loop [6, 8] (fun c i => ∃ j : Nat, j ≤ 1 ∧ i = .int .i64 (j + 1 : Nat) ∧ c = .int .i64 (acc s k (b - 192) j) ∧ conts s k j = true) (fun _ i => 2 - (intOf i).toNat)
    case atStart => exact ⟨0, by omega, rfl, rfl, rfl⟩
    case round =>
      obtain ⟨j, hj, rfl, rfl, hc⟩ := hrel
      have Hc := Lib.hid hc
      have hbd := acc_bd s k (b - 192) j (by omega) (by omega) (by omega) hc
      clear hc
      by_cases hlt : j < 1
      · have hin : k + (j + 1) < s.size := by omega
        have hby := (s[k + (j + 1)]'hin).toNat_lt
        have Hbt := Lib.hid (bt_eq s _ hin)
        go_wp2
        · go_ret2
          have hF := conts_false s k j 1 hlt (by rw [Hbt.out]; omega)
          exact ⟨by rw [Hg.out, hF]; simp, rfl⟩
        · go_round
          case rel => exact ⟨j + 1, by omega, by go_num, by rw [acc, Hbt.out], conts_succ s k j Hc.out (by rw [Hbt.out]; omega)⟩
          case measure => simp [intOf]; omega
        · go_ret2
          have hF := conts_false s k j 1 hlt (by rw [Hbt.out]; omega)
          exact ⟨by rw [Hg.out, hF]; simp, rfl⟩
      · go_wp2
        go_ret2
        have hj3 : j = 1 := by omega
        exact ⟨by rw [Hg.out]; rw [hj3] at Hc ⊢; rw [if_pos (by rw [Hc.out]; simp; omega)]; rfl, rfl⟩
  · go_enter Try.func17, Try.ntmps17
    go_wp2
    go_ret2
    exact ⟨by rw [Hg.out, if_neg (by simp; omega)]; rfl, rfl⟩

set_option maxHeartbeats 1000000 in
theorem guess_1 (s : ByteArray) (k : Nat) (w : World) (h : k < s.size) (hm : s.size ≤ 140737488355328) (b : Int) (hb : (s[k].toNat : Int) = b) (hlo : 0 ≤ b) (hhi : b ≤ 127) :
    Calls Try.prog 17 #[.string s, .int .i64 k] w fun e w' => e = .returned (.tuple #[.int .i64 (guessC s k).1, .int .i64 (guessC s k).2]) ∧ w = w' := by
  have hld : lead (bt s k) = (b, 1) := by rw [bt_eq s k h, hb]; simp only [lead]; rw [if_neg (by omega), if_neg (by omega), if_neg (by omega), if_neg (by omega)]
  have hg : guessC s k = if k + 1 ≤ s.size && conts s k 0 then (acc s k (b) 0, 1) else (0, 0) := by simp [guessC, hld]
  have Hg := Lib.hid hg
  clear hg hld
  generalize hG : guessC s k = G at *
  clear hG
  by_cases hroom : k + 1 ≤ s.size
  · go_enter Try.func17, Try.ntmps17
    go_wp2
    go_loop [6, 8] (fun c i => ∃ j : Nat, j ≤ 0 ∧ i = .int .i64 (j + 1 : Nat) ∧ c = .int .i64 (acc s k (b) j) ∧ conts s k j = true) (fun _ i => 1 - (intOf i).toNat)
    case atStart => exact ⟨0, by omega, rfl, rfl, rfl⟩
    case round =>
      obtain ⟨j, hj, rfl, rfl, hc⟩ := hrel
      have Hc := Lib.hid hc
      have hbd := acc_bd s k (b) j (by omega) (by omega) (by omega) hc
      clear hc
      by_cases hlt : j < 0
      · exact absurd hlt (by omega)
      · go_wp2
        go_ret2
        have hj3 : j = 0 := by omega
        exact ⟨by rw [Hg.out]; rw [hj3] at Hc ⊢; rw [if_pos (by rw [Hc.out]; simp; omega)]; rfl, rfl⟩
  · exact absurd h (by omega)

set_option maxHeartbeats 1000000 in
theorem guess_0 (s : ByteArray) (k : Nat) (w : World) (h : k < s.size) (hm : s.size ≤ 140737488355328) (b : Int) (hb : (s[k].toNat : Int) = b) (hlo : 128 ≤ b) (hhi : b ≤ 191) :
    Calls Try.prog 17 #[.string s, .int .i64 k] w fun e w' => e = .returned (.tuple #[.int .i64 (guessC s k).1, .int .i64 (guessC s k).2]) ∧ w = w' := by
  have hld : lead (bt s k) = (0, 0) := by rw [bt_eq s k h, hb]; simp only [lead]; rw [if_neg (by omega), if_neg (by omega), if_neg (by omega), if_pos (by omega)]
  have hg : guessC s k = (0, 0) := by simp [guessC, hld]
  rw [hg]
  clear hg hld
  go_enter Try.func17, Try.ntmps17
  go_wp2
  go_ret2
  exact ⟨rfl, rfl⟩

theorem guess_any (s : ByteArray) (k : Nat) (w : World) (h : k < s.size) (hm : s.size ≤ 140737488355328) :
    Calls Try.prog 17 #[.string s, .int .i64 k] w fun e w' => e = .returned (.tuple #[.int .i64 (guessC s k).1, .int .i64 (guessC s k).2]) ∧ w = w' := by
  have hb := (s[k]'h).toNat_lt
  rcases (by omega : 240 ≤ ((s[k]'h).toNat : Int) ∨ (224 ≤ ((s[k]'h).toNat : Int) ∧ ((s[k]'h).toNat : Int) ≤ 239) ∨ (192 ≤ ((s[k]'h).toNat : Int) ∧ ((s[k]'h).toNat : Int) ≤ 223) ∨ (128 ≤ ((s[k]'h).toNat : Int) ∧ ((s[k]'h).toNat : Int) ≤ 191) ∨ ((s[k]'h).toNat : Int) ≤ 127) with h1 | h1 | h1 | h1 | h1
  · exact guess_4 s k w h hm _ rfl (by omega) (by omega)
  · exact guess_3 s k w h hm _ rfl (by omega) (by omega)
  · exact guess_2 s k w h hm _ rfl (by omega) (by omega)
  · exact guess_0 s k w h hm _ rfl (by omega) (by omega)
  · exact guess_1 s k w h hm _ rfl (by omega) (by omega)

end Go.Proofs.Ytfacgdjfeogalaa
