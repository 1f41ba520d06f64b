/- Walks of the laws of layer 6. -/
import Derived.Test.YtfacgdjfeogalaaGlyphB
import Derived.Test.YtfacgdjfeogalaaGlyphG
import Derived.Test.YtfacgdjfeogalaaLaw
namespace Go.Proofs.Ytfacgdjfeogalaa
open Go.RowKit


theorem aw1 : encS [9076] = ⟨#[226, 141, 180]⟩ := by decide +kernel
theorem aw2 : allMay [9076] = true := by decide +kernel
theorem aw3 : decBy (stepG ⟨#[65, 192, 128]⟩) 3 3 0 = ([65], 1) := by decide +kernel
theorem aw4 : intsB [65] [65] = true := by decide +kernel
theorem aw5 : clsI 9076 = 4 := by decide +kernel

set_option maxHeartbeats 1000000 in
theorem awake_any (w : World) : Calls Try.prog 10 #[] w (Yes w) := by
  go_enter Try.func10, Try.ntmps10
  go_wp2_with (first
    | (go_at_call 9; refine (encode_any [9076] _ _ (SlI.made (heap_alloc_new _ _) rfl (Nat.le_refl _)) (by decide)).mono ?_; rw [aw1, aw2]; rintro e w1 ⟨rfl, hx1⟩)
    | (go_at_call 6; refine (decode_any ⟨#[65, 192, 128]⟩ _ (by decide)).mono ?_; rw [show (⟨#[65, 192, 128]⟩ : ByteArray).size = 3 from rfl, aw3]; rintro e w2 ⟨v2, rfl, hs2, hx2⟩)
    | (go_at_call 8; refine (ints_any [65] [65] _ _ _ (hs2.alloc _) (SlI.made (heap_alloc_new _ _) rfl (Nat.le_refl _)) (by decide) (by decide)).mono ?_; rw [aw4]; rintro e w3 ⟨rfl, n, rfl⟩)
    | (go_at_call 12; refine (class_any 9076 _).mono ?_; rw [aw5]; rintro e w4 ⟨rfl, rfl⟩))
  go_ret
  exact ⟨rfl, (by repeat (first | exact Ext.refl _ | assumption | apply Ext.alloc | apply Ext.drewN | apply Ext.drew | refine Ext.trans ?_ (by assumption)))⟩

theorem dec_len (step : Nat → Option (Int × Nat)) (size : Nat) : ∀ f k, (decBy step size f k).1.length ≤ f := by
  intro f
  induction f with
  | zero => intro k; simp [decBy]
  | succ f ih =>
    intro k
    simp only [decBy]
    split
    · split
      · rename_i c n _; have := ih (k + n); simp; omega
      · simp
    · simp

theorem ext_self (t : ByteArray) : t.extract 0 t.size = t := ByteArray.extract_zero_size
theorem str_eq_take (t : ByteArray) (l : List Int) (e : Nat) (h1 : allMay l = true) (h2 : strOf (encB l) = t.extract 0 e) : ((encS l).toList == (t.extract 0 e).toList) = true := by
  rw [encS, h1, if_pos rfl, h2]; simp

set_option maxHeartbeats 1000000 in
theorem decodes_small (s : ByteArray) (w : World) (hsz : s.size ≤ 500) : Calls Try.prog 3 #[.string s] w (Yes w) := by
  obtain ⟨hmay, e, hst, _, hes, hee⟩ := dec_back s s.size 0 (Nat.zero_le _) (by omega)
  have hle := dec_len (stepR s) s.size s.size 0
  have HG := Lib.hid (dec_eq s s.size 0)
  generalize hR : decBy (stepR s) s.size s.size 0 = R at *
  obtain ⟨l, a⟩ := R
  have HR := Lib.hid hR
  simp only at hmay hst hee hle
  have HS := Lib.hid (str_eq_take s l e hmay hst)
  have HM := Lib.hid hmay
  clear hR hmay hst
  have hii : intsB l l = true := by simp [intsB]
  have HI := Lib.hid hii
  clear hii
  by_cases ha : a < 0
  · rw [if_pos ha] at hee
    have hee' : e = s.size := by omega
    subst hee'
    have HS' : ((encS l).toList == s.toList) = true := by have := HS.out; simpa using this
    clear hee
    go_enter Try.func3, Try.ntmps3
    go_wp2_with (first
      | (go_at_call 6; refine (decode_any s _ (by omega)).mono ?_; rw [HG.out]; rintro e w1 ⟨v1, rfl, hs1, hx1⟩)
      | (go_at_call 7; refine (rdecode_any s _ (by omega)).mono ?_; rw [HR.out]; rintro e w2 ⟨v2, rfl, hs2, hx2⟩)
      | (go_at_call 8; refine (ints_any l l _ _ _ (hs1.keep hx2) hs2 (by unfold maxLen; omega) (by unfold maxLen; omega)).mono ?_; rw [HI.out]; rintro e w3 ⟨rfl, n, rfl⟩)
      | (go_at_call 9; refine (encode_any l _ _ ((hs1.keep hx2).drewN _) (by omega)).mono ?_; rw [HM.out]; rintro e w4 ⟨rfl, hx4⟩)
      | (go_at_call 10; refine (awake_any _).mono ?_; rintro e w5 ⟨rfl, hx5⟩))
    go_ret
    exact ⟨rfl, (by repeat (first | exact Ext.refl _ | assumption | apply Ext.alloc | apply Ext.drewN | apply Ext.drew | refine Ext.trans ?_ (by assumption)))⟩
  · rw [if_neg ha] at hee
    obtain rfl : a = (e : Int) := hee.symm
    have HS' := HS.out
    clear hee ha
    go_enter Try.func3, Try.ntmps3
    go_wp2_with (first
      | (go_at_call 6; refine (decode_any s _ (by omega)).mono ?_; rw [HG.out]; rintro e w1 ⟨v1, rfl, hs1, hx1⟩)
      | (go_at_call 7; refine (rdecode_any s _ (by omega)).mono ?_; rw [HR.out]; rintro e w2 ⟨v2, rfl, hs2, hx2⟩)
      | (go_at_call 8; refine (ints_any l l _ _ _ (hs1.keep hx2) hs2 (by unfold maxLen; omega) (by unfold maxLen; omega)).mono ?_; rw [HI.out]; rintro e w3 ⟨rfl, n, rfl⟩)
      | (go_at_call 9; refine (encode_any l _ _ ((hs1.keep hx2).drewN _) (by omega)).mono ?_; rw [HM.out]; rintro e w4 ⟨rfl, hx4⟩)
      | (go_at_call 10; refine (awake_any _).mono ?_; rintro e w5 ⟨rfl, hx5⟩))
    go_ret
    exact ⟨rfl, (by repeat (first | exact Ext.refl _ | assumption | apply Ext.alloc | apply Ext.drewN | apply Ext.drew | refine Ext.trans ?_ (by assumption)))⟩

set_option maxHeartbeats 1000000 in
theorem decodes_big (s : ByteArray) (w : World) (hsz : 500 < s.size) (hmx : s.size ≤ 9223372036854775807) : Calls Try.prog 3 #[.string s] w (Yes w) := by
  have ht : (s.extract 0 500).size = 500 := by simp; omega
  have HT := Lib.hid ht
  clear ht
  obtain ⟨hmay, e, hst, _, hes, hee⟩ := dec_back (s.extract 0 500) (s.extract 0 500).size 0 (Nat.zero_le _) (by omega)
  have hle := dec_len (stepR (s.extract 0 500)) (s.extract 0 500).size (s.extract 0 500).size 0
  have HG := Lib.hid (dec_eq (s.extract 0 500) (s.extract 0 500).size 0)
  generalize hR : decBy (stepR (s.extract 0 500)) (s.extract 0 500).size (s.extract 0 500).size 0 = R at *
  obtain ⟨l, a⟩ := R
  have HR := Lib.hid hR
  simp only at hmay hst hee hle
  have HS := Lib.hid (str_eq_take (s.extract 0 500) l e hmay hst)
  have HM := Lib.hid hmay
  clear hR hmay hst
  have hii : intsB l l = true := by simp [intsB]
  have HI := Lib.hid hii
  clear hii
  by_cases ha : a < 0
  · rw [if_pos ha] at hee
    have hee' : e = (s.extract 0 500).size := by omega
    subst hee'
    have HS' : ((encS l).toList == ((s.extract 0 500).extract 0 (min 500 s.size)).toList) = true := by have := HS.out; have h2 := HT.out; rw [h2] at this; rw [Nat.min_eq_left (by omega)]; exact this
    clear hee
    go_enter Try.func3, Try.ntmps3
    go_wp2_with (first
      | (go_at_call 6; refine (decode_any (s.extract 0 500) _ (by rw [HT.out]; decide)).mono ?_; rw [HG.out]; rintro e w1 ⟨v1, rfl, hs1, hx1⟩)
      | (go_at_call 7; refine (rdecode_any (s.extract 0 500) _ (by rw [HT.out]; decide)).mono ?_; rw [HR.out]; rintro e w2 ⟨v2, rfl, hs2, hx2⟩)
      | (go_at_call 8; refine (ints_any l l _ _ _ (hs1.keep hx2) hs2 (by have := HT.out; unfold maxLen; omega) (by have := HT.out; unfold maxLen; omega)).mono ?_; rw [HI.out]; rintro e w3 ⟨rfl, n, rfl⟩)
      | (go_at_call 9; refine (encode_any l _ _ ((hs1.keep hx2).drewN _) (by have := HT.out; omega)).mono ?_; rw [HM.out]; rintro e w4 ⟨rfl, hx4⟩)
      | (go_at_call 10; refine (awake_any _).mono ?_; rintro e w5 ⟨rfl, hx5⟩))
    go_ret
    exact ⟨rfl, (by repeat (first | exact Ext.refl _ | assumption | apply Ext.alloc | apply Ext.drewN | apply Ext.drew | refine Ext.trans ?_ (by assumption)))⟩
  · rw [if_neg ha] at hee
    obtain rfl : a = (e : Int) := hee.symm
    have HS' := HS.out
    clear hee ha
    go_enter Try.func3, Try.ntmps3
    go_wp2_with (first
      | (go_at_call 6; refine (decode_any (s.extract 0 500) _ (by rw [HT.out]; decide)).mono ?_; rw [HG.out]; rintro e w1 ⟨v1, rfl, hs1, hx1⟩)
      | (go_at_call 7; refine (rdecode_any (s.extract 0 500) _ (by rw [HT.out]; decide)).mono ?_; rw [HR.out]; rintro e w2 ⟨v2, rfl, hs2, hx2⟩)
      | (go_at_call 8; refine (ints_any l l _ _ _ (hs1.keep hx2) hs2 (by have := HT.out; unfold maxLen; omega) (by have := HT.out; unfold maxLen; omega)).mono ?_; rw [HI.out]; rintro e w3 ⟨rfl, n, rfl⟩)
      | (go_at_call 9; refine (encode_any l _ _ ((hs1.keep hx2).drewN _) (by have := HT.out; omega)).mono ?_; rw [HM.out]; rintro e w4 ⟨rfl, hx4⟩)
      | (go_at_call 10; refine (awake_any _).mono ?_; rintro e w5 ⟨rfl, hx5⟩))
    go_ret
    exact ⟨rfl, (by repeat (first | exact Ext.refl _ | assumption | apply Ext.alloc | apply Ext.drewN | apply Ext.drew | refine Ext.trans ?_ (by assumption)))⟩

theorem decodes_any (s : ByteArray) (w : World) (hmx : s.size ≤ 9223372036854775807) : Calls Try.prog 3 #[.string s] w (Yes w) := by
  by_cases h : s.size ≤ 500
  · exact decodes_small s w h
  · exact decodes_big s w (by omega) hmx

theorem cls_may (c : Int) (h : (clsI c == 0) = false) : mayB c = true := by
  rw [beq_eq_false_iff_ne] at h
  unfold clsI at h
  have key : ∀ l : List Int, (∀ x ∈ l, mayB x = true) → l.contains c = true → mayB c = true := fun l hl hc => hl c (by simpa using hc)
  have hm : ∀ lo hi : Int, 0 ≤ lo → hi ≤ 50000 → lo ≤ c → c ≤ hi → mayB c = true := fun lo hi h1 h2 h3 h4 => by simp [mayB]; omega
  split at h
  · exact hm 9 32 (by omega) (by omega) (by omega) (by omega)
  split at h
  · exact hm 65 122 (by omega) (by omega) (by omega) (by omega)
  split at h
  · exact hm 48 175 (by omega) (by omega) (by omega) (by omega)
  split at h
  · exact key funL (by decide +kernel) ‹_›
  split at h
  · exact key opL (by decide +kernel) ‹_›
  split at h
  · exact key markL (by decide +kernel) ‹_›
  · exact absurd rfl h

set_option maxHeartbeats 1000000 in
theorem classes_any (c : Int) (w : World) : Calls Try.prog 5 #[.int .i64 c] w (Yes w) := by
  cases h0 : (clsI c == 0) with
  | true =>
    go_enter Try.func5, Try.ntmps5
    go_wp2_with (first
      | (go_at_call 12; refine (class_any _ _).mono ?_; rintro e w1 ⟨rfl, rfl⟩)
      | (go_at_call 13; refine (rclass_any _ _).mono ?_; rintro e w2 ⟨rfl, hx2⟩)
      | (go_at_call 14; refine (may_any _ _).mono ?_; rintro e w3 ⟨rfl, rfl⟩)
      | (go_at_call 15; refine (rmay_any _ _).mono ?_; rintro e w4 ⟨rfl, rfl⟩)
      | (go_at_call 10; refine (awake_any _).mono ?_; rintro e w5 ⟨rfl, hx5⟩))
    all_goals go_ret
    all_goals exact ⟨rfl, (by repeat (first | exact Ext.refl _ | assumption | apply Ext.alloc | apply Ext.drewN | apply Ext.drew | refine Ext.trans ?_ (by assumption)))⟩
  | false =>
    have hm := cls_may c h0
    go_enter Try.func5, Try.ntmps5
    go_wp2_with (first
      | (go_at_call 12; refine (class_any _ _).mono ?_; rintro e w1 ⟨rfl, rfl⟩)
      | (go_at_call 13; refine (rclass_any _ _).mono ?_; rintro e w2 ⟨rfl, hx2⟩)
      | (go_at_call 14; refine (may_any _ _).mono ?_; rintro e w3 ⟨rfl, rfl⟩)
      | (go_at_call 15; refine (rmay_any _ _).mono ?_; rintro e w4 ⟨rfl, rfl⟩)
      | (go_at_call 10; refine (awake_any _).mono ?_; rintro e w5 ⟨rfl, hx5⟩))
    all_goals go_ret
    all_goals exact ⟨rfl, (by repeat (first | exact Ext.refl _ | assumption | apply Ext.alloc | apply Ext.drewN | apply Ext.drew | refine Ext.trans ?_ (by assumption)))⟩

/-- The first so many of a slice. -/
theorem SlI.take {w : World} {A : Option Addr} {n c : Nat} {k : IntKind} {xs : List Int} (h : SlI w (.slice A n c) k xs) (m : Nat) (hm : m ≤ xs.length) : SlI w (.slice A m c) k (xs.take m) := by
  obtain ⟨A', c', hv, hc, hl, hx⟩ := h
  cases hv
  refine ⟨A, c, by rw [List.length_take, Nat.min_eq_left hm], by rw [List.length_take]; omega, by simp, fun i x hi => hx i x ?_⟩
  rw [List.getElem?_map] at hi ⊢
  rw [List.getElem?_take] at hi
  split at hi
  · exact hi
  · simp at hi

theorem enc_size (l : List Int) (hl : l.length ≤ 200) : (encS l).size ≤ 800 := by
  have := encB_len l
  unfold encS
  split
  · simp [strOf, ByteArray.size]; omega
  · simp [ByteArray.size]

set_option maxHeartbeats 1000000 in
theorem encodes_small (l : List Int) (v : Value) (w : World) (h : SlI w v .i64 l) (hl : l.length ≤ 200) : Calls Try.prog 4 #[v] w (Yes w) := by
  obtain ⟨A, cp, rfl, hc, _⟩ := h.form
  have hsz := enc_size l hl
  have H := Lib.hid h
  clear h
  cases hm : allMay l with
  | false =>
    have HM := Lib.hid hm
    clear hm
    go_enter Try.func4, Try.ntmps4
    go_wp2_with (first
      | (go_at_call 9; refine (encode_any l _ _ H.out (by omega)).mono ?_; rw [HM.out]; rintro e w1 ⟨rfl, hx1⟩)
      | (go_at_call 11; refine (rencode_any l _ _ (H.out.keep hx1) (by omega)).mono ?_; rw [HM.out]; rintro e w2 ⟨rfl, hx2⟩)
      | (go_at_call 10; refine (awake_any _).mono ?_; rintro e w5 ⟨rfl, hx5⟩))
    go_ret
    exact ⟨rfl, (by repeat (first | exact Ext.refl _ | assumption | apply Ext.alloc | apply Ext.drewN | apply Ext.drew | refine Ext.trans ?_ (by assumption)))⟩
  | true =>
    have hD : decBy (stepG (encS l)) (encS l).size (encS l).size 0 = (l, -1) := by
      rw [dec_eq]
      exact enc_back (encS l) l _ 0 hm (by omega) (by omega) (by rw [ext_self, encS, hm]; rfl)
    have HD := Lib.hid hD
    have HM := Lib.hid hm
    have HI := Lib.hid (show intsB l l = true by simp [intsB])
    clear hm hD
    go_enter Try.func4, Try.ntmps4
    go_wp2_with (first
      | (go_at_call 9; refine (encode_any l _ _ H.out (by omega)).mono ?_; rw [HM.out]; rintro e w1 ⟨rfl, hx1⟩)
      | (go_at_call 11; refine (rencode_any l _ _ (H.out.keep hx1) (by omega)).mono ?_; rw [HM.out]; rintro e w2 ⟨rfl, hx2⟩)
      | (go_at_call 6; refine (decode_any (encS l) _ (by omega)).mono ?_; rw [HD.out]; rintro e w3 ⟨v3, rfl, hs3, hx3⟩)
      | (go_at_call 8; refine (ints_any l l _ _ _ hs3 (H.out.keep ((hx1.trans hx2).trans hx3)) (by unfold maxLen; omega) (by unfold maxLen; omega)).mono ?_; rw [HI.out]; rintro e w4 ⟨rfl, n, rfl⟩)
      | (go_at_call 10; refine (awake_any _).mono ?_; rintro e w5 ⟨rfl, hx5⟩))
    go_ret
    exact ⟨rfl, (by repeat (first | exact Ext.refl _ | assumption | apply Ext.alloc | apply Ext.drewN | apply Ext.drew | refine Ext.trans ?_ (by assumption)))⟩

set_option maxHeartbeats 1000000 in
theorem encodes_big (l0 : List Int) (v : Value) (w : World) (h0 : SlI w v .i64 l0) (hl0 : 200 < l0.length) (hmx : l0.length ≤ 9223372036854775807) : Calls Try.prog 4 #[v] w (Yes w) := by
  obtain ⟨A, cp, rfl, hc, _⟩ := h0.form
  have h := h0.take 200 (by omega)
  have hl : (l0.take 200).length ≤ 200 := List.length_take_le _ _
  generalize l0.take 200 = l at *
  clear h0
  have hsz := enc_size l hl
  have H := Lib.hid h
  clear h
  cases hm : allMay l with
  | false =>
    have HM := Lib.hid hm
    clear hm
    go_enter Try.func4, Try.ntmps4
    go_wp2_with (first
      | (go_at_call 9; refine (encode_any l _ _ H.out (by omega)).mono ?_; rw [HM.out]; rintro e w1 ⟨rfl, hx1⟩)
      | (go_at_call 11; refine (rencode_any l _ _ (H.out.keep hx1) (by omega)).mono ?_; rw [HM.out]; rintro e w2 ⟨rfl, hx2⟩)
      | (go_at_call 10; refine (awake_any _).mono ?_; rintro e w5 ⟨rfl, hx5⟩))
    go_ret
    exact ⟨rfl, (by repeat (first | exact Ext.refl _ | assumption | apply Ext.alloc | apply Ext.drewN | apply Ext.drew | refine Ext.trans ?_ (by assumption)))⟩
  | true =>
    have hD : decBy (stepG (encS l)) (encS l).size (encS l).size 0 = (l, -1) := by
      rw [dec_eq]
      exact enc_back (encS l) l _ 0 hm (by omega) (by omega) (by rw [ext_self, encS, hm]; rfl)
    have HD := Lib.hid hD
    have HM := Lib.hid hm
    have HI := Lib.hid (show intsB l l = true by simp [intsB])
    clear hm hD
    go_enter Try.func4, Try.ntmps4
    go_wp2_with (first
      | (go_at_call 9; refine (encode_any l _ _ H.out (by omega)).mono ?_; rw [HM.out]; rintro e w1 ⟨rfl, hx1⟩)
      | (go_at_call 11; refine (rencode_any l _ _ (H.out.keep hx1) (by omega)).mono ?_; rw [HM.out]; rintro e w2 ⟨rfl, hx2⟩)
      | (go_at_call 6; refine (decode_any (encS l) _ (by omega)).mono ?_; rw [HD.out]; rintro e w3 ⟨v3, rfl, hs3, hx3⟩)
      | (go_at_call 8; refine (ints_any l l _ _ _ hs3 (H.out.keep ((hx1.trans hx2).trans hx3)) (by unfold maxLen; omega) (by unfold maxLen; omega)).mono ?_; rw [HI.out]; rintro e w4 ⟨rfl, n, rfl⟩)
      | (go_at_call 10; refine (awake_any _).mono ?_; rintro e w5 ⟨rfl, hx5⟩))
    go_ret
    exact ⟨rfl, (by repeat (first | exact Ext.refl _ | assumption | apply Ext.alloc | apply Ext.drewN | apply Ext.drew | refine Ext.trans ?_ (by assumption)))⟩

theorem encodes_any (l : List Int) (v : Value) (w : World) (h : SlI w v .i64 l) (hmx : l.length ≤ 9223372036854775807) : Calls Try.prog 4 #[v] w (Yes w) := by
  by_cases hl : l.length ≤ 200
  · exact encodes_small l v w h hl
  · exact encodes_big l v w h (by omega) hmx

end Go.Proofs.Ytfacgdjfeogalaa
