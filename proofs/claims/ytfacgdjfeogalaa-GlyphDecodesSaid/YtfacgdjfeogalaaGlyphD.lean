/- Walks: characters to bytes. -/
import Derived.Test.YtfacgdjfeogalaaGlyphC
namespace Go.Proofs.Ytfacgdjfeogalaa
open Go.RowKit

theorem elt_u8 : Elt Try.prog 36 5 1 1 :=
  ⟨Try.underlying36, by
    obtain ⟨i, hi, h1, h2, h3⟩ := info_parts (P := Try.prog) (e := 5) (z := .int .u8 0) (size := 1) (bytes := 1) (by kernel_rfl)
    exact ⟨i, _, hi, h1, h2, h3, rfl⟩, by decide⟩
theorem elt_int : Elt Try.prog 22 3 1 8 :=
  ⟨Try.underlying22, by
    obtain ⟨i, hi, h1, h2, h3⟩ := info_parts (P := Try.prog) (e := 3) (z := .int .i64 0) (size := 1) (bytes := 8) (by kernel_rfl)
    exact ⟨i, _, hi, h1, h2, h3, rfl⟩, by decide⟩

/-- What an append of bytes tells. -/
def AppB (w0 w : World) (v : Value) (n : Nat) (xs : List Value) (ns : List Int) (e : Ending) (w' : World) : Prop :=
  ∃ v', e = .returned v' ∧ Own w0 w' 5 1 (n + ns.length) v' (xs ++ ns.map (.int .u8)) ∧ w.grownBy w' v.ownBlock

set_option maxHeartbeats 1000000 in
theorem appendNon_any (w0 : World) (n : Nat) (v : Value) (xs : List Value) (c : Int) (w : World) (hown : Own w0 w 5 1 n v xs) (hn : n ≤ 1000000000) (hc : 128 ≤ c) (hc2 : c ≤ 1114111) (hc3 : c < 55296 ∨ 57343 < c) :
    Calls Try.prog 26 #[v, .int .i32 c] w (AppB w0 w v n xs (bytesOf c)) := by
  have H := Lib.hid hown
  clear hown
  go_enter Try.func26, Try.ntmps26
  go_wp2_with (at_builtin; refine wpList_app elt_u8 rfl _ _ rfl rfl (H.out.alloc _) rfl (SlN.made (heap_alloc_new _ _) rfl (Nat.le_refl _)) (by simp [Value.oneCell']) (by omega) (by unfold maxLen; omega) ?_; intro v' w' hown' hgr)
  all_goals go_ret
  all_goals first | rw [bytesOf, if_neg (by omega), if_pos (by omega)] | rw [bytesOf, if_neg (by omega), if_neg (by omega), if_pos (by omega)] | rw [bytesOf, if_neg (by omega), if_neg (by omega), if_neg (by omega)]
  all_goals exact ⟨_, rfl, hown', grown_alloc hgr⟩

set_option maxHeartbeats 1000000 in
theorem appendRune_any (w0 : World) (n : Nat) (v : Value) (xs : List Value) (c : Int) (w : World) (hown : Own w0 w 5 1 n v xs) (hn : n ≤ 1000000000) (hc : 0 ≤ c) (hc2 : c ≤ 1114111) (hc3 : c < 55296 ∨ 57343 < c) :
    Calls Try.prog 19 #[v, .int .i32 c] w (AppB w0 w v n xs (bytesOf c)) := by
  have H := Lib.hid hown
  clear hown
  by_cases h1 : c < 128
  · go_enter Try.func19, Try.ntmps19
    go_wp2_with (at_builtin; refine wpList_app elt_u8 rfl _ _ rfl rfl (H.out.alloc _) rfl (SlN.made (heap_alloc_new _ _) rfl (Nat.le_refl _)) (by simp [Value.oneCell']) (by omega) (by unfold maxLen; omega) ?_; intro v' w' hown' hgr)
    go_ret
    rw [bytesOf, if_pos h1]
    exact ⟨_, rfl, hown', grown_alloc hgr⟩
  · go_enter Try.func19, Try.ntmps19
    go_wp2_with (go_at_call 26; refine (appendNon_any w0 n v xs c _ H.out hn (by omega) hc2 hc3).mono ?_; rintro e w' ⟨v', rfl, hown', hgr⟩)
    go_ret
    exact ⟨_, rfl, hown', hgr⟩

/-- The bytes of characters; none, if one is no character. -/
def encB (l : List Int) : List Int := l.flatMap bytesOf
def allMay (l : List Int) : Bool := l.all mayB
def encS (l : List Int) : ByteArray := if allMay l then strOf (encB l) else ⟨#[]⟩
theorem bytesOf_len (c : Int) : (bytesOf c).length ≤ 4 := by unfold bytesOf; split <;> (try split) <;> (try split) <;> simp
theorem encB_snoc (l : List Int) (k : Nat) (h : k < l.length) : encB (l.take (k + 1)) = encB (l.take k) ++ bytesOf l[k] := by
  rw [List.take_succ_eq_append_getElem h, encB, List.flatMap_append]; simp [encB]
theorem encB_len (l : List Int) : (encB l).length ≤ 4 * l.length := by
  induction l with
  | nil => simp [encB]
  | cons c l ih =>
    have := bytesOf_len c
    simp only [encB, List.flatMap_cons, List.length_append, List.length_cons] at ih ⊢
    omega
theorem allMay_snoc (l : List Int) (k : Nat) (h : k < l.length) (h1 : allMay (l.take k) = true) (h2 : mayB l[k] = true) : allMay (l.take (k + 1)) = true := by
  rw [List.take_succ_eq_append_getElem h, allMay, List.all_append]; simp_all [allMay]
theorem allMay_no (l : List Int) (k : Nat) (h : k < l.length) (h2 : mayB l[k] = false) : allMay l = false := by
  rw [allMay, List.all_eq_false]; exact ⟨l[k], List.getElem_mem h, by simp [h2]⟩
theorem may_bd (c : Int) (h : mayB c = true) : 0 ≤ c ∧ c ≤ 1114111 ∧ (c < 55296 ∨ 57343 < c) := by simpa [mayB] using h

set_option maxHeartbeats 1000000 in
theorem encode_any (l : List Int) (v : Value) (w : World) (h : SlI w v .i64 l) (hl : l.length ≤ 100000) :
    Calls Try.prog 9 #[v] w fun e w' => e = .returned (.tuple #[.string (encS l), .bool (allMay l)]) ∧ Ext w w' := by
  obtain ⟨A, cp, rfl, hc, hcell⟩ := h.form
  have H := Lib.hid hcell
  clear hcell
  go_enter Try.func9, Try.ntmps9
  go_wp2_with (at_make; refine wpList_mk0 (w0 := w) elt_u8 rfl _ _ rfl (Ext.refl w) l.length rfl rfl (by omega) (by unfold maxLen; omega) ?_; intro v0 w1 hown0 hx0)
  go_loopw [4, 12] (fun v i wr => ∃ k : Nat, k ≤ l.length ∧ i = .int .i64 k ∧ allMay (l.take k) = true ∧ Own w wr 5 1 (encB (l.take k)).length v ((encB (l.take k)).map (.int .u8))) (fun _ i _ => l.length - (intOf i).toNat)
  case atStart => exact ⟨0, Nat.zero_le _, rfl, rfl, hown0⟩
  case round =>
    obtain ⟨k, hk, rfl, hmay, hown⟩ := hrel
    have Hown := Lib.hid hown
    have Hmay := Lib.hid hmay
    have hlen : (encB (l.take k)).length ≤ 400000 := by have := encB_len (l.take k); rw [List.length_take] at this; omega
    clear hown hmay
    by_cases hlt : k < l.length
    · obtain ⟨ad, rfl, hb, hc1⟩ := H.out k hlt
      have hc2 : wr.cell? (ad.add k) = some (.int .i64 l[k]) := (Hown.out.ext.cell (p := ad.add k) (by rw [blk_add]; exact hb)).trans hc1
      by_cases hm : mayB l[k] = true
      · have hbd := may_bd _ hm
        go_wp2_with (first
          | (go_at_call 14; refine (may_any _ _).mono ?_; rintro e w' ⟨rfl, rfl⟩)
          | (go_at_call 19; refine (appendRune_any w _ _ _ _ _ Hown.out (by omega) (by omega) (by omega) (by omega)).mono ?_; rintro e w2 ⟨v2, rfl, hown2, hgr2⟩))
        go_roundw
        case rel => exact ⟨k + 1, by omega, by go_num, allMay_snoc l k hlt Hmay.out hm, by rw [encB_snoc l k hlt, List.map_append, List.length_append]; exact hown2⟩
        case measure => simp [intOf]; omega
      · have hm' : mayB l[k] = false := by simpa using hm
        go_wp2_with (go_at_call 14; refine (may_any _ _).mono ?_; rintro e w' ⟨rfl, rfl⟩)
        go_ret2
        exact ⟨by rw [encS, allMay_no l k hlt hm']; rfl, Hown.out.ext⟩
    · have hcv := conv_str (P := Try.prog) (src := 36) (dst := 9) Hown.out.sl Try.underlying36 Try.underlying5 Try.underlying9
      go_wp2
      go_ret2
      refine ⟨?_, Hown.out.ext⟩
      have ht : l.take k = l := List.take_of_length_le (by omega)
      have hm := Hmay.out
      rw [ht] at hm ⊢
      rw [encS, hm]
      rfl

set_option maxHeartbeats 1000000 in
theorem rencode_any (l : List Int) (v : Value) (w : World) (h : SlI w v .i64 l) (hl : l.length ≤ 100000) :
    Calls Try.prog 11 #[v] w fun e w' => e = .returned (.tuple #[.string (encS l), .bool (allMay l)]) ∧ Ext w w' := by
  obtain ⟨A, cp, rfl, hc, hcell⟩ := h.form
  have H := Lib.hid hcell
  clear hcell
  go_enter Try.func11, Try.ntmps11
  go_wp2_with fail
  go_loopw [4, 5] (fun v i wr => ∃ k : Nat, k ≤ l.length ∧ i = .int .i64 k ∧ allMay (l.take k) = true ∧ Own w wr 5 1 (encB (l.take k)).length v ((encB (l.take k)).map (.int .u8))) (fun _ i _ => l.length - (intOf i).toNat)
  case atStart => exact ⟨0, Nat.zero_le _, rfl, rfl, Own.nil_ _ _ (Ext.refl _)⟩
  case round =>
    obtain ⟨k, hk, rfl, hmay, hown⟩ := hrel
    have Hown := Lib.hid hown
    have Hmay := Lib.hid hmay
    have hlen : (encB (l.take k)).length ≤ 400000 := by have := encB_len (l.take k); rw [List.length_take] at this; omega
    clear hown hmay
    by_cases hlt : k < l.length
    · obtain ⟨ad, rfl, hb, hc1⟩ := H.out k hlt
      have hc2 : wr.cell? (ad.add k) = some (.int .i64 l[k]) := (Hown.out.ext.cell (p := ad.add k) (by rw [blk_add]; exact hb)).trans hc1
      have hbl := bytesOf_len l[k]
      by_cases hm : mayB l[k] = true
      · have hbd := may_bd _ hm
        go_wp2_with (first
          | (go_at_call 15; refine (rmay_any _ _).mono ?_; rintro e w' ⟨rfl, rfl⟩)
          | (go_at_call 18; refine (one_any _ _ (by omega) (by omega)).mono ?_; rintro e w2 ⟨v2, rfl, hsl2, hx2⟩)
          | (at_builtin; refine wpList_app elt_u8 rfl _ _ rfl rfl (Hown.out.step hx2) rfl hsl2 (by intro y hy; obtain ⟨z, _, rfl⟩ := List.mem_map.1 hy; rfl) (by omega) (by unfold maxLen; omega) ?_; intro v3 w3 hown3 hgr3))
        go_roundw
        case rel => exact ⟨k + 1, by omega, by go_num, allMay_snoc l k hlt Hmay.out hm, by rw [encB_snoc l k hlt, List.map_append, List.length_append]; exact hown3⟩
        case measure => simp [intOf]; omega
      · have hm' : mayB l[k] = false := by simpa using hm
        go_wp2_with (go_at_call 15; refine (rmay_any _ _).mono ?_; rintro e w' ⟨rfl, rfl⟩)
        go_ret2
        exact ⟨by rw [encS, allMay_no l k hlt hm']; rfl, Hown.out.ext⟩
    · have hcv := conv_str (P := Try.prog) (src := 36) (dst := 9) Hown.out.sl Try.underlying36 Try.underlying5 Try.underlying9
      go_wp2
      go_ret2
      refine ⟨?_, Hown.out.ext⟩
      have ht : l.take k = l := List.take_of_length_le (by omega)
      have hm := Hmay.out
      rw [ht] at hm ⊢
      rw [encS, hm]
      rfl

end Go.Proofs.Ytfacgdjfeogalaa
