/- The plain laws of characters and their bytes. -/
import Derived.Test.YtfacgdjfeogalaaGlyphF
namespace Go.Proofs.Ytfacgdjfeogalaa
open Go.RowKit

/-- The bytes of a character stand at a place. -/
def Mat (s : ByteArray) (k : Nat) (c : Int) : Prop := k + (bytesOf c).length ≤ s.size ∧ ∀ i b, (bytesOf c)[i]? = some b → bt s (k + i) = b

theorem bt_get (s : ByteArray) (i : Nat) (h : i < s.size) : ((s.get! i).toNat : Int) = bt s i := by
  rw [bt_eq s i h]
  have : s.get! i = s[i]'h := by
    simp [ByteArray.get!, getElem!_pos, h]
    rfl
  rw [this]
theorem bt_get' (s : ByteArray) (i : Nat) : ((s.get! i).toNat : Int) = bt s i := by
  by_cases h : i < s.size
  · exact bt_get s i h
  · have h1 : bt s i = 0 := by simp [bt, h]
    have h2 : s.get! i = default := by
      unfold ByteArray.get!
      exact getElem!_neg _ _ (by simpa using h)
    rw [h1, h2]; rfl

theorem bytesOf_bd (c : Int) (h : mayB c = true) : ∀ b ∈ bytesOf c, 0 ≤ b ∧ b ≤ 255 := by
  have := may_bd c h
  intro b hb
  unfold bytesOf at hb
  split at hb
  · simp at hb; omega
  · split at hb
    · simp at hb; omega
    · split at hb
      · simp at hb; omega
      · simp at hb; omega

/-- Matching bytes, as strings. -/
theorem mat_iff (s : ByteArray) (k n : Nat) (c : Int) (hm : mayB c = true) (hk : k + n ≤ s.size) : strOf (bytesOf c) = s.extract k (k + n) ↔ n = (bytesOf c).length ∧ Mat s k c := by
  have hbd := bytesOf_bd c hm
  constructor
  · intro h
    have hsz : (strOf (bytesOf c)).size = (s.extract k (k + n)).size := by rw [h]
    have hn : n = (bytesOf c).length := by
      simp [strOf, ByteArray.size_extract] at hsz
      have : (strOf (bytesOf c)).size = (bytesOf c).length := by simp [strOf, ByteArray.size]
      rw [h, ByteArray.size_extract] at this
      omega
    refine ⟨hn, by omega, fun i b hb => ?_⟩
    have hi : i < (bytesOf c).length := (List.getElem?_eq_some_iff.1 hb).1
    have he : (strOf (bytesOf c)).data[i]? = (s.extract k (k + n)).data[i]? := by rw [h]
    simp only [strOf, List.getElem?_toArray, List.getElem?_map, hb, Option.map_some] at he
    rw [bt_eq s (k + i) (by omega)]
    have hx : (s.extract k (k + n)).data[i]? = some (s[k + i]'(by omega)) := by
      simp only [ByteArray.data_extract, Array.getElem?_extract]
      rw [if_pos (by have : s.data.size = s.size := rfl; omega)]
      have : s.data.size = s.size := rfl
      rw [Array.getElem?_eq_getElem (by omega)]
      rfl
    rw [hx] at he
    injection he with he
    rw [← he]
    have hb2 := hbd b (List.mem_of_getElem? hb)
    simp only [UInt8.toNat_ofNat']
    omega
  · rintro ⟨rfl, hle, hmat⟩
    apply ByteArray.ext
    apply Array.ext_getElem?
    intro i
    by_cases hi : i < (bytesOf c).length
    · have hb : (bytesOf c)[i]? = some ((bytesOf c)[i]) := List.getElem?_eq_getElem hi
      have h1 := hmat i _ hb
      rw [bt_eq s (k + i) (by omega)] at h1
      have hx : (s.extract k (k + (bytesOf c).length)).data[i]? = some (s[k + i]'(by omega)) := by
        simp only [ByteArray.data_extract, Array.getElem?_extract]
        have : s.data.size = s.size := rfl
        rw [if_pos (by omega)]
        rw [Array.getElem?_eq_getElem (by omega)]
        rfl
      rw [hx]
      simp only [strOf, List.getElem?_toArray, List.getElem?_map, hb, Option.map_some, ← h1]
      simp
    · have h1 : (strOf (bytesOf c)).data[i]? = none := by simp [strOf]; omega
      have h2 : (s.extract k (k + (bytesOf c).length)).data[i]? = none := by
        rw [Array.getElem?_eq_none]
        have : (s.extract k (k + (bytesOf c).length)).data.size = (s.extract k (k + (bytesOf c).length)).size := rfl
        rw [this, ByteArray.size_extract]; omega
      rw [h1, h2]

theorem bytesOf_cases (c : Int) : (c < 128 ∧ bytesOf c = [c]) ∨ (128 ≤ c ∧ c < 2048 ∧ bytesOf c = [192 + c / 64, 128 + c % 64]) ∨
    (2048 ≤ c ∧ c < 65536 ∧ bytesOf c = [224 + c / 4096, 128 + c / 64 % 64, 128 + c % 64]) ∨ (65536 ≤ c ∧ bytesOf c = [240 + c / 262144, 128 + c / 4096 % 64, 128 + c / 64 % 64, 128 + c % 64]) := by
  unfold bytesOf
  by_cases h1 : c < 128
  · exact .inl ⟨h1, by rw [if_pos h1]⟩
  · by_cases h2 : c < 2048
    · exact .inr (.inl ⟨by omega, h2, by rw [if_neg h1, if_pos h2]⟩)
    · by_cases h3 : c < 65536
      · exact .inr (.inr (.inl ⟨by omega, h3, by rw [if_neg h1, if_neg h2, if_pos h3]⟩))
      · exact .inr (.inr (.inr ⟨by omega, by rw [if_neg h1, if_neg h2, if_neg h3]⟩))

/-- Claim A: where a character's bytes stand, that is the guess. -/
theorem guess_mat (s : ByteArray) (k : Nat) (c : Int) (hm : mayB c = true) (h : Mat s k c) : guessC s k = (c, (bytesOf c).length) := by
  have hb := may_bd c hm
  obtain ⟨hle, hmat⟩ := h
  have h0 := hmat 0
  have h1 := hmat 1
  have h2 := hmat 2
  have h3 := hmat 3
  clear hmat
  rcases bytesOf_cases c with ⟨hc, he⟩ | ⟨hc, hc2, he⟩ | ⟨hc, hc2, he⟩ | ⟨hc, he⟩
  all_goals rw [he] at h0 h1 h2 h3 hle ⊢
  all_goals simp at h0 h1 h2 h3 hle ⊢
  · have hl : lead (bt s k) = (c, 1) := by simp only [lead]; rw [if_neg (by omega), if_neg (by omega), if_neg (by omega), if_neg (by omega)]; simp; omega
    simp [guessC, hl, conts, acc, hle]
  · have hl : lead (bt s k) = (bt s k - 192, 2) := by simp only [lead]; rw [if_neg (by omega), if_neg (by omega), if_pos (by omega)]
    simp only [guessC, hl]
    rw [if_neg (by simp), if_pos]
    · simp [acc]; omega
    · simp [conts]; omega
  · have hl : lead (bt s k) = (bt s k - 224, 3) := by simp only [lead]; rw [if_neg (by omega), if_pos (by omega)]
    simp only [guessC, hl]
    rw [if_neg (by simp), if_pos]
    · simp [acc]; omega
    · simp [conts]; omega
  · have hl : lead (bt s k) = (bt s k - 240, 4) := by simp only [lead]; rw [if_pos (by omega)]
    simp only [guessC, hl]
    rw [if_neg (by simp), if_pos]
    · simp [acc]; omega
    · simp [conts]; omega

theorem stepR_mat (s : ByteArray) (k : Nat) (c : Int) (hm : mayB c = true) (h : Mat s k c) : stepR s k = some (c, (bytesOf c).length) := by
  have hg := guess_mat s k c hm h
  have hp : (bytesOf c).length ≠ 0 := by unfold bytesOf; split <;> (try split) <;> (try split) <;> simp
  rw [stepR, hg, if_pos]
  exact ⟨hp, hm, (mat_iff s k _ c hm h.1).2 ⟨rfl, h⟩⟩
theorem stepR_some (s : ByteArray) (k : Nat) (c : Int) (n : Nat) (h : stepR s k = some (c, n)) : mayB c = true ∧ n = (bytesOf c).length ∧ Mat s k c := by
  unfold stepR at h
  split at h
  · rename_i hh
    injection h with h
    rw [h] at hh
    have hr := guess_room s k (by rw [h]; exact hh.1)
    rw [h] at hr
    exact ⟨hh.2.1, (mat_iff s k n c hh.2.1 hr.1).1 hh.2.2⟩
  · cases h

/-- The model's own step, over the bytes as numbers. -/
def dec4 (b0 b1 b2 b3 : Nat) (r1 r2 r3 : Bool) : Nat × Nat :=
  if b0 < 0x80 then (b0, 1)
  else if b0 / 32 == 6 && (r1 && b1 / 64 == 2) then (if (b0 % 32) * 64 + b1 % 64 ≥ 0x80 then ((b0 % 32) * 64 + b1 % 64, 2) else (65533, 1))
  else if b0 / 16 == 14 && (r1 && b1 / 64 == 2) && (r2 && b2 / 64 == 2) then
    (if (b0 % 16) * 4096 + (b1 % 64) * 64 + b2 % 64 ≥ 0x800 && Utf8.valid ((b0 % 16) * 4096 + (b1 % 64) * 64 + b2 % 64 : Nat) then ((b0 % 16) * 4096 + (b1 % 64) * 64 + b2 % 64, 3) else (65533, 1))
  else if b0 / 8 == 30 && (r1 && b1 / 64 == 2) && (r2 && b2 / 64 == 2) && (r3 && b3 / 64 == 2) then
    (if (b0 % 8) * 262144 + (b1 % 64) * 4096 + (b2 % 64) * 64 + b3 % 64 ≥ 0x10000 && Utf8.valid ((b0 % 8) * 262144 + (b1 % 64) * 4096 + (b2 % 64) * 64 + b3 % 64 : Nat) then ((b0 % 8) * 262144 + (b1 % 64) * 4096 + (b2 % 64) * 64 + b3 % 64, 4) else (65533, 1))
  else (65533, 1)
theorem decode_dec4 (s : ByteArray) (k : Nat) : Utf8.decode s k = dec4 (s.get! (k + 0)).toNat (s.get! (k + 1)).toNat (s.get! (k + 2)).toNat (s.get! (k + 3)).toNat (decide (k + 1 < s.size)) (decide (k + 2 < s.size)) (decide (k + 3 < s.size)) := rfl

theorem valid_may (c : Nat) : Utf8.valid (c : Int) = mayB c := by
  rw [Bool.eq_iff_iff]
  simp [Utf8.valid, mayB]
  omega

/-- What stands at a place, by numbers. -/
def Key (b0 b1 b2 b3 : Nat) (r1 r2 r3 : Bool) (c : Int) : Prop := (b0 < 128 ∧ c = b0) ∨ (b0 / 32 = 6 ∧ r1 = true ∧ b1 / 64 = 2 ∧ c = (b0 % 32) * 64 + b1 % 64 ∧ 128 ≤ c) ∨
      (b0 / 16 = 14 ∧ r1 = true ∧ r2 = true ∧ b1 / 64 = 2 ∧ b2 / 64 = 2 ∧ c = (b0 % 16) * 4096 + (b1 % 64) * 64 + b2 % 64 ∧ 2048 ≤ c) ∨
      (b0 / 8 = 30 ∧ r1 = true ∧ r2 = true ∧ r3 = true ∧ b1 / 64 = 2 ∧ b2 / 64 = 2 ∧ b3 / 64 = 2 ∧ c = (b0 % 8) * 262144 + (b1 % 64) * 4096 + (b2 % 64) * 64 + b3 % 64 ∧ 65536 ≤ c)

theorem key_iff (s : ByteArray) (k : Nat) (hk : k < s.size) (b0 b1 b2 b3 : Nat) (e0 : (b0 : Int) = bt s (k + 0)) (e1 : (b1 : Int) = bt s (k + 1)) (e2 : (b2 : Int) = bt s (k + 2)) (e3 : (b3 : Int) = bt s (k + 3)) (c : Int) (hm : mayB c = true) :
    Mat s k c ↔ Key b0 b1 b2 b3 (decide (k + 1 < s.size)) (decide (k + 2 < s.size)) (decide (k + 3 < s.size)) c := by
  have hb := may_bd c hm
  have l0 := bt_le s (k + 0)
  have l1 := bt_le s (k + 1)
  have l2 := bt_le s (k + 2)
  have l3 := bt_le s (k + 3)
  unfold Key
  simp only [decide_eq_true_eq]
  constructor
  · rintro ⟨hle, hmat⟩
    have h0 := hmat 0
    have h1 := hmat 1
    have h2 := hmat 2
    have h3 := hmat 3
    clear hmat
    rcases bytesOf_cases c with ⟨hc, he⟩ | ⟨hc, hc2, he⟩ | ⟨hc, hc2, he⟩ | ⟨hc, he⟩
    all_goals rw [he] at h0 h1 h2 h3 hle
    all_goals simp at h0 h1 h2 h3 hle
    all_goals simp only [Nat.add_zero] at e0 l0
    · exact .inl (by omega)
    · exact .inr (.inl (by omega))
    · exact .inr (.inr (.inl (by omega)))
    · exact .inr (.inr (.inr (by omega)))
  · intro h
    simp only [Nat.add_zero] at e0 l0
    rcases bytesOf_cases c with ⟨hc, he⟩ | ⟨hc, hc2, he⟩ | ⟨hc, hc2, he⟩ | ⟨hc, he⟩
    all_goals (unfold Mat; rw [he])
    · refine ⟨by simp; omega, fun i b hb => ?_⟩
      rcases i with _ | i
      · simp at hb ⊢; omega
      · simp at hb
    · refine ⟨by simp; omega, fun i b hb => ?_⟩
      rcases i with _ | _ | i
      · simp at hb ⊢; omega
      · simp at hb ⊢; omega
      · simp at hb
    · refine ⟨by simp; omega, fun i b hb => ?_⟩
      rcases i with _ | _ | _ | i
      · simp at hb ⊢; omega
      · simp at hb ⊢; omega
      · simp at hb ⊢; omega
      · simp at hb
    · refine ⟨by simp; omega, fun i b hb => ?_⟩
      rcases i with _ | _ | _ | _ | i
      · simp at hb ⊢; omega
      · simp at hb ⊢; omega
      · simp at hb ⊢; omega
      · simp at hb ⊢; omega
      · simp at hb

theorem bytesOf_len4 (c : Int) : (bytesOf c).length = if c < 128 then 1 else if c < 2048 then 2 else if c < 65536 then 3 else 4 := by
  unfold bytesOf; split <;> (try split) <;> (try split) <;> simp

theorem dec4_cases (b0 b1 b2 b3 : Nat) (r1 r2 r3 : Bool) (l0 : b0 ≤ 255) :
    (∃ c : Nat, mayB c = true ∧ Key b0 b1 b2 b3 r1 r2 r3 c ∧ dec4 b0 b1 b2 b3 r1 r2 r3 = (c, (bytesOf c).length)) ∨ ((∀ c, mayB c = true → ¬ Key b0 b1 b2 b3 r1 r2 r3 c) ∧ dec4 b0 b1 b2 b3 r1 r2 r3 = (65533, 1)) := by
  unfold dec4
  split
  · rename_i h
    exact .inl ⟨b0, by simp [mayB]; omega, .inl ⟨h, rfl⟩, by rw [bytesOf_len4, if_pos (by omega)]⟩
  · rename_i h0
    split
    · rename_i h
      simp only [Bool.and_eq_true, beq_iff_eq] at h
      split
      · rename_i h1
        refine .inl ⟨(b0 % 32) * 64 + b1 % 64, ?_, .inr (.inl ⟨h.1, h.2.1, h.2.2, by simp, by omega⟩), by rw [bytesOf_len4, if_neg (by omega), if_pos (by omega)]⟩
        simp [mayB]; omega
      · rename_i h1
        refine .inr ⟨fun c hm hk => ?_, rfl⟩
        unfold Key at hk
        omega
    · rename_i hA
      simp only [Bool.and_eq_true, beq_iff_eq, not_and] at hA
      split
      · rename_i h
        simp only [Bool.and_eq_true, beq_iff_eq] at h
        split
        · rename_i h1
          simp only [Bool.and_eq_true, decide_eq_true_eq, valid_may] at h1
          exact .inl ⟨_, h1.2, .inr (.inr (.inl ⟨h.1.1, h.1.2.1, h.2.1, h.1.2.2, h.2.2, by simp, by omega⟩)), by rw [bytesOf_len4, if_neg (by omega), if_neg (by omega), if_pos (by omega)]⟩
        · rename_i h1
          simp only [Bool.and_eq_true, decide_eq_true_eq, valid_may, not_and] at h1
          refine .inr ⟨fun c hm hk => ?_, rfl⟩
          unfold Key at hk
          rcases hk with hk | hk | hk | hk
          · omega
          · omega
          · obtain ⟨_, _, _, _, _, rfl, hge⟩ := hk
            exact h1 (by omega) (by simpa using hm)
          · omega
      · rename_i hB
        simp only [Bool.and_eq_true, beq_iff_eq, not_and] at hB
        split
        · rename_i h
          simp only [Bool.and_eq_true, beq_iff_eq] at h
          split
          · rename_i h1
            simp only [Bool.and_eq_true, decide_eq_true_eq, valid_may] at h1
            exact .inl ⟨_, h1.2, .inr (.inr (.inr ⟨h.1.1.1, h.1.1.2.1, h.1.2.1, h.2.1, h.1.1.2.2, h.1.2.2, h.2.2, by simp, by omega⟩)), by rw [bytesOf_len4, if_neg (by omega), if_neg (by omega), if_neg (by omega)]⟩
          · rename_i h1
            simp only [Bool.and_eq_true, decide_eq_true_eq, valid_may, not_and] at h1
            refine .inr ⟨fun c hm hk => ?_, rfl⟩
            unfold Key at hk
            rcases hk with hk | hk | hk | hk
            · omega
            · omega
            · omega
            · obtain ⟨_, _, _, _, _, _, _, rfl, hge⟩ := hk
              exact h1 (by omega) (by simpa using hm)
        · rename_i hC
          simp only [Bool.and_eq_true, beq_iff_eq, not_and] at hC
          refine .inr ⟨fun c hm hk => ?_, rfl⟩
          unfold Key at hk
          rcases hk with hk | hk | hk | hk
          · omega
          · exact hA hk.1 hk.2.1 hk.2.2.1
          · exact hB ⟨hk.1, hk.2.1, hk.2.2.2.1⟩ hk.2.2.1 hk.2.2.2.2.1
          · exact hC ⟨⟨hk.1, hk.2.1, hk.2.2.2.2.1⟩, hk.2.2.1, hk.2.2.2.2.2.1⟩ hk.2.2.2.1 hk.2.2.2.2.2.2.1

theorem decode_cases (s : ByteArray) (k : Nat) (hk : k < s.size) :
    (∃ c : Nat, mayB c = true ∧ Mat s k c ∧ Utf8.decode s k = (c, (bytesOf c).length)) ∨ ((∀ c, mayB c = true → ¬ Mat s k c) ∧ Utf8.decode s k = (65533, 1)) := by
  rw [decode_dec4]
  have l0 := bt_le s (k + 0)
  have e0 := bt_get' s (k + 0)
  rcases dec4_cases (s.get! (k + 0)).toNat (s.get! (k + 1)).toNat (s.get! (k + 2)).toNat (s.get! (k + 3)).toNat (decide (k + 1 < s.size)) (decide (k + 2 < s.size)) (decide (k + 3 < s.size)) (by omega) with ⟨c, hm, hK, he⟩ | ⟨hK, he⟩
  · exact .inl ⟨c, hm, (key_iff s k hk _ _ _ _ (bt_get' s _) (bt_get' s _) (bt_get' s _) (bt_get' s _) c hm).2 hK, he⟩
  · exact .inr ⟨fun c hm h => hK c hm ((key_iff s k hk _ _ _ _ (bt_get' s _) (bt_get' s _) (bt_get' s _) (bt_get' s _) c hm).1 h), he⟩

theorem ba_of_toList {a b : ByteArray} (h : a.data.toList = b.data.toList) : a = b := by
  cases a; cases b; congr 1; simpa using h
theorem ext_list (s : ByteArray) (a b : Nat) : (s.extract a b).data.toList = (s.data.toList.drop a).take (b - a) := by
  simp [ByteArray.data_extract]
theorem fffd (s : ByteArray) (k : Nat) (hk : k < s.size) : hpB (s.extract k s.size) ⟨#[239, 191, 189]⟩ = true ↔ Mat s k 65533 := by
  have hb : bytesOf 65533 = [239, 191, 189] := by decide
  have hst : strOf (bytesOf 65533) = ⟨#[239, 191, 189]⟩ := by rw [hb]; rfl
  have h3 : (⟨#[239, 191, 189]⟩ : ByteArray).size = 3 := rfl
  unfold hpB
  rw [h3, Bool.and_eq_true, decide_eq_true_eq, beq_iff_eq, ByteArray.size_extract]
  constructor
  · rintro ⟨hl, he⟩
    have hle : k + 3 ≤ s.size := by omega
    have hx : (s.extract k s.size).extract 0 3 = s.extract k (k + 3) := by
      rw [ByteArray.extract_extract]; congr 1; omega
    rw [hx] at he
    have : strOf (bytesOf 65533) = s.extract k (k + 3) := by
      rw [hst]
      rw [ByteArray.toList_eq, ByteArray.toList_eq] at he
      exact ba_of_toList he.symm
    exact ((mat_iff s k 3 65533 (by decide) hle).1 this).2
  · intro h
    have hle : k + 3 ≤ s.size := by have := h.1; rw [hb] at this; simpa using this
    refine ⟨by omega, ?_⟩
    have hx : (s.extract k s.size).extract 0 3 = s.extract k (k + 3) := by
      rw [ByteArray.extract_extract]; congr 1; omega
    rw [hx, ← (mat_iff s k 3 65533 (by decide) hle).2 ⟨by rw [hb]; rfl, h⟩, hst]

/-- The program's step is the document's. -/
theorem step_eq (s : ByteArray) (k : Nat) (hk : k < s.size) : stepG s k = stepR s k := by
  rcases decode_cases s k hk with ⟨c, hm, hmat, he⟩ | ⟨hno, he⟩
  · rw [stepR_mat s k c hm hmat, stepG, he]
    simp only
    rw [if_neg]
    rintro ⟨hc, hp⟩
    have : hpB (s.extract k s.size) ⟨#[239, 191, 189]⟩ = true := (fffd s k hk).2 (by rw [← hc]; exact hmat)
    rw [hp] at this
    cases this
  · have hR : stepR s k = none := by
      cases h : stepR s k with
      | none => rfl
      | some p =>
        obtain ⟨c, n⟩ := p
        obtain ⟨h1, _, h3⟩ := stepR_some s k c n h
        exact absurd h3 (hno c h1)
    rw [hR, stepG, he, if_pos]
    refine ⟨rfl, ?_⟩
    cases hp : hpB (s.extract k s.size) ⟨#[239, 191, 189]⟩ with
    | false => rfl
    | true => exact absurd ((fffd s k hk).1 hp) (hno 65533 (by decide))

theorem dec_eq (s : ByteArray) : ∀ f k, decBy (stepG s) s.size f k = decBy (stepR s) s.size f k := by
  intro f
  induction f with
  | zero => intro k; rfl
  | succ f ih =>
    intro k
    simp only [decBy]
    split
    · rename_i h
      rw [step_eq s k h]
      cases stepR s k with
      | none => rfl
      | some p => simp only [ih]
    · rfl

/-- What was told has just these bytes. -/
theorem dec_back (s : ByteArray) : ∀ f k, k ≤ s.size → s.size ≤ k + f → allMay (decBy (stepR s) s.size f k).1 = true ∧
    ∃ e, strOf (encB (decBy (stepR s) s.size f k).1) = s.extract k e ∧ k ≤ e ∧ e ≤ s.size ∧ (e : Int) = (if (decBy (stepR s) s.size f k).2 < 0 then (s.size : Int) else (decBy (stepR s) s.size f k).2) := by
  have str0 : ∀ k, strOf (encB []) = s.extract k k := fun k => by
    apply ByteArray.ext
    simp [strOf, encB]
  intro f
  induction f with
  | zero =>
    intro k hk hf
    refine ⟨rfl, k, str0 k, Nat.le_refl _, hk, ?_⟩
    simp [decBy]; omega
  | succ f ih =>
    intro k hk hf
    simp only [decBy]
    split
    · rename_i hlt
      cases h : stepR s k with
      | none => exact ⟨rfl, k, str0 k, Nat.le_refl _, hk, by simp; omega⟩
      | some p =>
        obtain ⟨c, n⟩ := p
        obtain ⟨hm, hn, hmat⟩ := stepR_some s k c n h
        have hle := hmat.1
        have hp : 1 ≤ (bytesOf c).length := by rw [bytesOf_len4]; split <;> (try split) <;> (try split) <;> omega
        obtain ⟨i1, e, i2, i3, i4, i5⟩ := ih (k + n) (by omega) (by omega)
        refine ⟨by simp [allMay, hm] at i1 ⊢; exact i1, e, ?_, by omega, i4, i5⟩
        have hx := (mat_iff s k n c hm (by omega)).2 ⟨hn, hmat⟩
        have hs : strOf (encB (c :: (decBy (stepR s) s.size f (k + n)).1)) = strOf (bytesOf c) ++ strOf (encB (decBy (stepR s) s.size f (k + n)).1) := by
          apply ByteArray.ext
          simp [strOf, encB, ByteArray.data_append]
        simp only
        rw [hs, i2, hx]
        rw [ByteArray.extract_append_extract]
        congr 1
        · omega
        · omega
    · rename_i hlt
      refine ⟨rfl, k, str0 k, Nat.le_refl _, hk, ?_⟩
      simp; omega

/-- What was encoded is told again. -/
theorem enc_back (s : ByteArray) : ∀ (l : List Int) (f k : Nat), allMay l = true → s.size ≤ k + f → k ≤ s.size → strOf (encB l) = s.extract k s.size → decBy (stepR s) s.size f k = (l, -1) := by
  intro l
  induction l with
  | nil =>
    intro f k _ hf hk h
    have : (strOf (encB [])).size = (s.extract k s.size).size := by rw [h]
    have h0 : (strOf (encB [])).size = 0 := rfl
    rw [h0, ByteArray.size_extract] at this
    exact dec_end _ _ _ _ (by omega)
  | cons c l ih =>
    intro f k hm hf hk h
    simp only [allMay, List.all_cons, Bool.and_eq_true] at hm
    have hs : strOf (encB (c :: l)) = strOf (bytesOf c) ++ strOf (encB l) := by
      apply ByteArray.ext
      simp [strOf, encB, ByteArray.data_append]
    have hp : 1 ≤ (bytesOf c).length := by rw [bytesOf_len4]; split <;> (try split) <;> (try split) <;> omega
    have hsz : (strOf (bytesOf c)).size = (bytesOf c).length := by simp [strOf, ByteArray.size]
    rw [hs] at h
    have hlen : (strOf (bytesOf c) ++ strOf (encB l)).size = s.size - k := by rw [h, ByteArray.size_extract]; omega
    rw [ByteArray.size_append, hsz] at hlen
    have hle : k + (bytesOf c).length ≤ s.size := by omega
    have hL : (strOf (bytesOf c)).data.toList ++ (strOf (encB l)).data.toList = s.data.toList.drop k := by
      have := congrArg (fun x : ByteArray => x.data.toList) h
      rw [ext_list] at this
      rw [List.take_of_length_le (by simp)] at this
      rw [← this, ByteArray.data_append, Array.toList_append]
    have hll : (strOf (bytesOf c)).data.toList.length = (bytesOf c).length := by simp [strOf]
    have h1 : strOf (bytesOf c) = s.extract k (k + (bytesOf c).length) := by
      apply ba_of_toList
      rw [ext_list, ← hL, Nat.add_sub_cancel_left, ← hll, List.take_left]
    have h2 : strOf (encB l) = s.extract (k + (bytesOf c).length) s.size := by
      apply ba_of_toList
      rw [ext_list, ← List.drop_drop, ← hL, ← hll, List.drop_left]
      rw [List.take_of_length_le]
      have := congrArg List.length hL
      simp at this ⊢
      simp [strOf] at this ⊢
      omega
    have hmat := ((mat_iff s k _ c hm.1 hle).1 h1).2
    rw [dec_go (stepR s) s.size f k (by omega) hf c _ (stepR_mat s k c hm.1 hmat), ih (f - 1) _ hm.2 (by omega) hle h2]

end Go.Proofs.Ytfacgdjfeogalaa
