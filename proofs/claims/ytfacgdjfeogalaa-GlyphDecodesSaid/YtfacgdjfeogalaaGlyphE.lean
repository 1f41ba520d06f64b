/- Walks: bytes to characters. -/
import Derived.Test.YtfacgdjfeogalaaGlyphD
import Derived.Test.YtfacgdjfeogalaaRegion
import Derived.Deep.RegionWith
namespace Go.Proofs.Ytfacgdjfeogalaa
open Go.RowKit

/-- Characters one behind the other, by a step that tells the character at a place and its length. -/
def decBy (step : Nat → Option (Int × Nat)) (size : Nat) : Nat → Nat → List Int × Int
  | 0, _ => ([], -1)
  | f + 1, k => if k < size then (match step k with
      | some (c, n) => (c :: (decBy step size f (k + n)).1, (decBy step size f (k + n)).2)
      | none => ([], (k : Int))) else ([], -1)

theorem dec_end (step : Nat → Option (Int × Nat)) (size f k : Nat) (h : ¬ k < size) : decBy step size f k = ([], -1) := by
  cases f with
  | zero => rfl
  | succ f => simp [decBy, h]
theorem dec_stop (step : Nat → Option (Int × Nat)) (size f k : Nat) (h : k < size) (hf : size ≤ k + f) (hs : step k = none) : decBy step size f k = ([], (k : Int)) := by
  obtain ⟨f, rfl⟩ : ∃ f', f = f' + 1 := ⟨f - 1, by omega⟩
  simp [decBy, h, hs]
theorem dec_go (step : Nat → Option (Int × Nat)) (size f k : Nat) (h : k < size) (hf : size ≤ k + f) (c : Int) (n : Nat) (hs : step k = some (c, n)) :
    decBy step size f k = (c :: (decBy step size (f - 1) (k + n)).1, (decBy step size (f - 1) (k + n)).2) := by
  obtain ⟨f, rfl⟩ : ∃ f', f = f' + 1 := ⟨f - 1, by omega⟩
  simp [decBy, h, hs]
theorem own_sli {w0 w : World} {t : TypeId} {v : Value} {k : IntKind} {xs : List Int} (h : Own w0 w t 1 xs.length v (xs.map (.int k))) : SlI w v k xs := h.sl
theorem bytes_ne {a b : ByteArray} (h : (!a.toList == b.toList) = true) : a ≠ b := by rintro rfl; simp at h
theorem bytes_eq {a b : ByteArray} (h : (!a.toList == b.toList) = false) : a = b := by
  simp at h
  have : a.data.toList = b.data.toList := by simpa [ByteArray.toList_eq] using h
  cases a; cases b; congr 1; simpa using this

def stepR (s : ByteArray) (k : Nat) : Option (Int × Nat) :=
  if (guessC s k).2 ≠ 0 ∧ mayB (guessC s k).1 = true ∧ strOf (bytesOf (guessC s k).1) = s.extract k (k + (guessC s k).2) then some (guessC s k) else none

theorem guess_room (s : ByteArray) (k : Nat) (h : (guessC s k).2 ≠ 0) : k + (guessC s k).2 ≤ s.size ∧ (guessC s k).2 ≤ 4 := by
  unfold guessC at h ⊢
  have hl : (lead (bt s k)).2 ≤ 4 := by unfold lead; split <;> (try split) <;> (try split) <;> (try split) <;> simp
  split at h
  · simp at h
  · rename_i h0
    rw [if_neg h0]
    split at h
    · rename_i h1
      rw [if_pos h1]
      simp only [Bool.and_eq_true, decide_eq_true_eq] at h1
      exact ⟨h1.1, hl⟩
    · simp at h

set_option maxHeartbeats 1000000 in
theorem rdecode_any (s : ByteArray) (w : World) (hm : s.size ≤ 100000) :
    Calls Try.prog 7 #[.string s] w fun e w' => ∃ v, e = .returned (.tuple #[v, .int .i64 (decBy (stepR s) s.size s.size 0).2]) ∧ SlI w' v .i64 (decBy (stepR s) s.size s.size 0).1 ∧ Ext w w' := by
  generalize hD : decBy (stepR s) s.size s.size 0 = D
  have HD := Lib.hid hD
  clear hD
  go_enter Try.func7, Try.ntmps7
  go_wp2_with fail
  go_loopw [4, 5] (fun v i wr => ∃ (k f : Nat) (out : List Int), k ≤ s.size ∧ s.size ≤ k + f ∧ i = .int .i64 k ∧ out.length ≤ k ∧ D = (out ++ (decBy (stepR s) s.size f k).1, (decBy (stepR s) s.size f k).2) ∧ Own w wr 3 1 out.length v (out.map (.int .i64))) (fun _ i _ => s.size - (intOf i).toNat)
  case atStart => exact ⟨0, s.size, [], Nat.zero_le _, by omega, rfl, Nat.zero_le _, by rw [HD.out]; rfl, Own.nil_ _ _ (Ext.refl _)⟩
  case round =>
    obtain ⟨k, f, out, hk, hf, rfl, hol, hD, hown⟩ := hrel
    have Hown := Lib.hid hown
    have HD2 := Lib.hid hD
    clear hown hD
    by_cases hlt : k < s.size
    · generalize hG : guessC s k = G
      obtain ⟨c, n⟩ := G
      have HG := Lib.hid hG
      clear hG
      by_cases hn : n = 0
      · subst hn
        go_wp2_with (go_at_call 17; refine (guess_any s k _ hlt (by omega)).mono ?_; rw [HG.out]; rintro e w' ⟨rfl, rfl⟩)
        go_quiet (fail)
        go_wp2
        go_ret2
        have hD := HD2.out
        rw [dec_stop (stepR s) s.size f k hlt hf (by rw [stepR, HG.out]; simp)] at hD
        subst hD
        exact ⟨_, rfl, by simpa using own_sli (Hown.out.drewN nq), (Hown.out.drewN nq).ext⟩
      · have hr := guess_room s k (by rw [HG.out]; exact hn)
        rw [HG.out] at hr
        simp only at hr
        have hn0 : ((n : Int) == 0) = false := by rw [beq_eq_false_iff_ne]; omega
        by_cases hmay : mayB c = true
        · have hbd := may_bd _ hmay
          go_wp2_with (go_at_call 17; refine (guess_any s k _ hlt (by omega)).mono ?_; rw [HG.out]; rintro e w' ⟨rfl, rfl⟩)
          refine region_growL [[], [(0, 18)], [(1, 19)], [(2, 20)], [(3, 21), (2, 20)], [(4, 22), (2, 20)], [(2, 20), (5, 23)], [(6, 24)], [(7, 25)], [(8, 26), (7, 25)], [(9, 27), (7, 25)], [(7, 25)], [(7, 25)], [(7, 25)], [(7, 25)], [(13, 31), (14, 32), (7, 25)], [(11, 29), (12, 30), (15, 33), (7, 25)], [(10, 28), (16, 34), (7, 25)], [(7, 25), (17, 35)]] [(0, 18), (1, 19), (2, 20), (3, 21), (4, 22), (5, 23), (6, 24), (7, 25), (8, 26), (9, 27), (10, 28), (11, 29), (12, 30), (13, 31), (14, 32), (15, 33), (16, 34), (17, 35), (18, 36)] (by kernel_rfl) (by kernel_rfl) (by kernel_rfl) (by kernel_rfl) ?_
          apply Grow.step
          · intro w2 hw2
            intro K hK
            go_wp2_with fail
            first | exact hK _ _ (Ext.refl _) EqV.rfl_ | trace "op 0"
          · first | exact stay_eq _ | (intro v w w1 h hx; exact SlI.keep h hx) | (intro v w w1 h hx; exact SlN.keep h hx) | (intro v w w1 h hx; exact h)
          apply Grow.step
          · intro w2 hw2
            intro n1 h1
            simp only [upd] at h1
            first | (unfold EqV at h1; subst h1) | skip
            intro K hK
            go_wp2_with fail
            first | exact hK _ _ (Ext.refl _) EqV.rfl_ | exact hK _ _ (Ext.refl _) h1 | trace "op 1"
          · first | exact stay_eq _ | (intro v w w1 h hx; exact SlI.keep h hx) | (intro v w w1 h hx; exact SlN.keep h hx) | (intro v w w1 h hx; exact h)
          apply Grow.step
          · intro w2 hw2
            intro n1 h1
            simp only [upd] at h1
            first | (unfold EqV at h1; subst h1) | skip
            intro K hK
            go_wp2_with fail
            first | exact hK _ _ (Ext.refl _) EqV.rfl_ | exact hK _ _ (Ext.refl _) h1 | trace "op 2"
          · first | exact stay_eq _ | (intro v w w1 h hx; exact SlI.keep h hx) | (intro v w w1 h hx; exact SlN.keep h hx) | (intro v w w1 h hx; exact h)
          apply Grow.step
          · intro w2 hw2
            intro n1 h1
            simp only [upd] at h1
            first | (unfold EqV at h1; subst h1) | skip
            intro K hK
            go_wp2_with fail
            first | exact hK _ _ (Ext.refl _) EqV.rfl_ | exact hK _ _ (Ext.refl _) h1 | trace "op 3"
          · first | exact stay_eq _ | (intro v w w1 h hx; exact SlI.keep h hx) | (intro v w w1 h hx; exact SlN.keep h hx) | (intro v w w1 h hx; exact h)
          apply Grow.step
          · intro w2 hw2
            intro n1 h1
            simp only [upd] at h1
            first | (unfold EqV at h1; subst h1) | skip
            intro n2 h2
            simp only [upd] at h2
            first | (unfold EqV at h2; subst h2) | skip
            intro K hK
            go_wp2_with (go_at_call 15; refine (rmay_any _ _).mono ?_; rintro e w' ⟨rfl, rfl⟩)
            (first | exact hK _ _ (Ext.refl _) EqV.rfl_ | exact hK _ _ (Ext.refl _) h1 | exact hK _ _ (Ext.refl _) h2 | trace "op 4")
          · first | exact stay_eq _ | (intro v w w1 h hx; exact SlI.keep h hx) | (intro v w w1 h hx; exact SlN.keep h hx) | (intro v w w1 h hx; exact h)
          apply Grow.step
          · intro w2 hw2
            intro n1 h1
            simp only [upd] at h1
            first | (unfold EqV at h1; subst h1) | skip
            intro n2 h2
            simp only [upd] at h2
            first | (unfold EqV at h2; subst h2) | skip
            intro K hK
            go_wp2_with fail
            first | exact hK _ _ (Ext.refl _) EqV.rfl_ | exact hK _ _ (Ext.refl _) h1 | exact hK _ _ (Ext.refl _) h2 | trace "op 5"
          · first | exact stay_eq _ | (intro v w w1 h hx; exact SlI.keep h hx) | (intro v w w1 h hx; exact SlN.keep h hx) | (intro v w w1 h hx; exact h)
          apply Grow.step
          · intro w2 hw2
            intro n1 h1
            simp only [upd] at h1
            first | (unfold EqV at h1; subst h1) | skip
            intro n2 h2
            simp only [upd] at h2
            first | (unfold EqV at h2; subst h2) | skip
            intro K hK
            go_wp2_with fail
            first | exact hK _ _ (Ext.refl _) EqV.rfl_ | exact hK _ _ (Ext.refl _) h1 | exact hK _ _ (Ext.refl _) h2 | trace "op 6"
          · first | exact stay_eq _ | (intro v w w1 h hx; exact SlI.keep h hx) | (intro v w w1 h hx; exact SlN.keep h hx) | (intro v w w1 h hx; exact h)
          apply Grow.step
          · intro w2 hw2
            intro n1 h1
            simp only [upd] at h1
            first | (unfold EqV at h1; subst h1) | skip
            intro K hK
            go_wp2_with fail
            first | exact hK _ _ (Ext.refl _) EqV.rfl_ | exact hK _ _ (Ext.refl _) h1 | trace "op 7"
          · first | exact stay_eq _ | (intro v w w1 h hx; exact SlI.keep h hx) | (intro v w w1 h hx; exact SlN.keep h hx) | (intro v w w1 h hx; exact h)
          apply Grow.step
          · intro w2 hw2
            intro n1 h1
            simp only [upd] at h1
            first | (unfold EqV at h1; subst h1) | skip
            intro K hK
            go_wp2_with fail
            first | exact hK _ _ (Ext.refl _) EqV.rfl_ | exact hK _ _ (Ext.refl _) h1 | trace "op 8"
          · first | exact stay_eq _ | (intro v w w1 h hx; exact SlI.keep h hx) | (intro v w w1 h hx; exact SlN.keep h hx) | (intro v w w1 h hx; exact h)
          apply Grow.step
          · intro w2 hw2
            intro n1 h1
            simp only [upd] at h1
            first | (unfold EqV at h1; subst h1) | skip
            intro n2 h2
            simp only [upd] at h2
            first | (unfold EqV at h2; subst h2) | skip
            intro K hK
            go_wp2_with (go_at_call 18; refine (one_any _ _ (by omega) (by omega)).mono ?_; rintro e w' ⟨v2, rfl, hsl2, hx2⟩)
            (exact hK _ _ hx2 hsl2)
          · first | exact stay_eq _ | (intro v w w1 h hx; exact SlI.keep h hx) | (intro v w w1 h hx; exact SlN.keep h hx) | (intro v w w1 h hx; exact h)
          apply Grow.step
          · intro w2 hw2
            intro n1 h1
            simp only [upd] at h1
            first | (unfold EqV at h1; subst h1) | skip
            intro n2 h2
            simp only [upd] at h2
            first | (unfold EqV at h2; subst h2) | skip
            intro K hK
            (have hcv := conv_str (P := Try.prog) (src := 36) (dst := 9) h1 Try.underlying36 Try.underlying5 Try.underlying9; clear h1)
            go_wp2_with fail
            (first | exact hK _ _ (Ext.refl _) EqV.rfl_ | exact hK _ _ (Ext.refl _) h1 | exact hK _ _ (Ext.refl _) h2 | trace "op 10")
          · first | exact stay_eq _ | (intro v w w1 h hx; exact SlI.keep h hx) | (intro v w w1 h hx; exact SlN.keep h hx) | (intro v w w1 h hx; exact h)
          apply Grow.step
          · intro w2 hw2
            intro n1 h1
            simp only [upd] at h1
            first | (unfold EqV at h1; subst h1) | skip
            intro K hK
            go_wp2_with fail
            first | exact hK _ _ (Ext.refl _) EqV.rfl_ | exact hK _ _ (Ext.refl _) h1 | trace "op 11"
          · first | exact stay_eq _ | (intro v w w1 h hx; exact SlI.keep h hx) | (intro v w w1 h hx; exact SlN.keep h hx) | (intro v w w1 h hx; exact h)
          apply Grow.step
          · intro w2 hw2
            intro n1 h1
            simp only [upd] at h1
            first | (unfold EqV at h1; subst h1) | skip
            intro K hK
            go_wp2_with fail
            first | exact hK _ _ (Ext.refl _) EqV.rfl_ | exact hK _ _ (Ext.refl _) h1 | trace "op 12"
          · first | exact stay_eq _ | (intro v w w1 h hx; exact SlI.keep h hx) | (intro v w w1 h hx; exact SlN.keep h hx) | (intro v w w1 h hx; exact h)
          apply Grow.step
          · intro w2 hw2
            intro n1 h1
            simp only [upd] at h1
            first | (unfold EqV at h1; subst h1) | skip
            intro K hK
            go_wp2_with fail
            first | exact hK _ _ (Ext.refl _) EqV.rfl_ | exact hK _ _ (Ext.refl _) h1 | trace "op 13"
          · first | exact stay_eq _ | (intro v w w1 h hx; exact SlI.keep h hx) | (intro v w w1 h hx; exact SlN.keep h hx) | (intro v w w1 h hx; exact h)
          apply Grow.step
          · intro w2 hw2
            intro n1 h1
            simp only [upd] at h1
            first | (unfold EqV at h1; subst h1) | skip
            intro K hK
            go_wp2_with fail
            first | exact hK _ _ (Ext.refl _) EqV.rfl_ | exact hK _ _ (Ext.refl _) h1 | trace "op 14"
          · first | exact stay_eq _ | (intro v w w1 h hx; exact SlI.keep h hx) | (intro v w w1 h hx; exact SlN.keep h hx) | (intro v w w1 h hx; exact h)
          apply Grow.step
          · intro w2 hw2
            intro n1 h1
            simp only [upd] at h1
            first | (unfold EqV at h1; subst h1) | skip
            intro n2 h2
            simp only [upd] at h2
            first | (unfold EqV at h2; subst h2) | skip
            intro n3 h3
            simp only [upd] at h3
            first | (unfold EqV at h3; subst h3) | skip
            intro K hK
            go_wp2_with fail
            first | exact hK _ _ (Ext.refl _) EqV.rfl_ | exact hK _ _ (Ext.refl _) h1 | exact hK _ _ (Ext.refl _) h2 | exact hK _ _ (Ext.refl _) h3 | trace "op 15"
          · first | exact stay_eq _ | (intro v w w1 h hx; exact SlI.keep h hx) | (intro v w w1 h hx; exact SlN.keep h hx) | (intro v w w1 h hx; exact h)
          apply Grow.step
          · intro w2 hw2
            intro n1 h1
            simp only [upd] at h1
            first | (unfold EqV at h1; subst h1) | skip
            intro n2 h2
            simp only [upd] at h2
            first | (unfold EqV at h2; subst h2) | skip
            intro n3 h3
            simp only [upd] at h3
            first | (unfold EqV at h3; subst h3) | skip
            intro n4 h4
            simp only [upd] at h4
            first | (unfold EqV at h4; subst h4) | skip
            intro K hK
            go_wp2_with fail
            first | exact hK _ _ (Ext.refl _) EqV.rfl_ | exact hK _ _ (Ext.refl _) h1 | exact hK _ _ (Ext.refl _) h2 | exact hK _ _ (Ext.refl _) h3 | exact hK _ _ (Ext.refl _) h4 | trace "op 16"
          · first | exact stay_eq _ | (intro v w w1 h hx; exact SlI.keep h hx) | (intro v w w1 h hx; exact SlN.keep h hx) | (intro v w w1 h hx; exact h)
          apply Grow.step
          · intro w2 hw2
            intro n1 h1
            simp only [upd] at h1
            first | (unfold EqV at h1; subst h1) | skip
            intro n2 h2
            simp only [upd] at h2
            first | (unfold EqV at h2; subst h2) | skip
            intro n3 h3
            simp only [upd] at h3
            first | (unfold EqV at h3; subst h3) | skip
            intro K hK
            go_wp2_with fail
            first | exact hK _ _ (Ext.refl _) EqV.rfl_ | exact hK _ _ (Ext.refl _) h1 | exact hK _ _ (Ext.refl _) h2 | exact hK _ _ (Ext.refl _) h3 | trace "op 17"
          · first | exact stay_eq _ | (intro v w w1 h hx; exact SlI.keep h hx) | (intro v w w1 h hx; exact SlN.keep h hx) | (intro v w w1 h hx; exact h)
          apply Grow.step
          · intro w2 hw2
            intro n1 h1
            simp only [upd] at h1
            first | (unfold EqV at h1; subst h1) | skip
            intro n2 h2
            simp only [upd] at h2
            first | (unfold EqV at h2; subst h2) | skip
            intro K hK
            go_wp2_with fail
            first | exact hK _ _ (Ext.refl _) EqV.rfl_ | exact hK _ _ (Ext.refl _) h1 | exact hK _ _ (Ext.refl _) h2 | trace "op 18"
          · first | exact stay_eq _ | (intro v w w1 h hx; exact SlI.keep h hx) | (intro v w w1 h hx; exact SlN.keep h hx) | (intro v w w1 h hx; exact h)
          refine Grow.last (fun w2 hw2 => ?_)
          intro n18 h18; simp only [upd] at h18; (first | (unfold EqV at h18; subst h18) | skip)
          intro n19 h19; simp only [upd] at h19; (first | (unfold EqV at h19; subst h19) | skip)
          intro n20 h20; simp only [upd] at h20; (first | (unfold EqV at h20; subst h20) | skip)
          intro n21 h21; simp only [upd] at h21; (first | (unfold EqV at h21; subst h21) | skip)
          intro n22 h22; simp only [upd] at h22; (first | (unfold EqV at h22; subst h22) | skip)
          intro n23 h23; simp only [upd] at h23; (first | (unfold EqV at h23; subst h23) | skip)
          intro n24 h24; simp only [upd] at h24; (first | (unfold EqV at h24; subst h24) | skip)
          intro n25 h25; simp only [upd] at h25; (first | (unfold EqV at h25; subst h25) | skip)
          intro n26 h26; simp only [upd] at h26; (first | (unfold EqV at h26; subst h26) | skip)
          intro n27 h27; simp only [upd] at h27; (first | (unfold EqV at h27; subst h27) | skip)
          intro n28 h28; simp only [upd] at h28; (first | (unfold EqV at h28; subst h28) | skip)
          intro n29 h29; simp only [upd] at h29; (first | (unfold EqV at h29; subst h29) | skip)
          intro n30 h30; simp only [upd] at h30; (first | (unfold EqV at h30; subst h30) | skip)
          intro n31 h31; simp only [upd] at h31; (first | (unfold EqV at h31; subst h31) | skip)
          intro n32 h32; simp only [upd] at h32; (first | (unfold EqV at h32; subst h32) | skip)
          intro n33 h33; simp only [upd] at h33; (first | (unfold EqV at h33; subst h33) | skip)
          intro n34 h34; simp only [upd] at h34; (first | (unfold EqV at h34; subst h34) | skip)
          intro n35 h35; simp only [upd] at h35; (first | (unfold EqV at h35; subst h35) | skip)
          intro n36 h36; simp only [upd] at h36; (first | (unfold EqV at h36; subst h36) | skip)
          refine Need.done ?_
          go_simp
          go_wp2_with (at_builtin; refine wpList_app elt_int rfl _ _ rfl rfl ((Hown.out.step (((Ext.refl _).drew).trans hw2)).alloc _) rfl (SlN.made (heap_alloc_new _ _) rfl (Nat.le_refl _)) (by simp [Value.oneCell']) (by omega) (by unfold maxLen; omega) ?_; intro v3 w3 hown3 hgr3)
          · go_ret2
            have hD := HD2.out
            rw [dec_stop (stepR s) s.size f k hlt hf (by rw [stepR, HG.out]; rw [if_neg]; rintro ⟨_, _, h⟩; exact bytes_ne ‹_› h)] at hD
            subst hD
            have ho := Hown.out.step (((Ext.refl _).drew).trans hw2)
            exact ⟨_, rfl, by simpa using own_sli ho, ho.ext⟩
          · have hD := HD2.out
            rw [dec_go (stepR s) s.size f k hlt hf c n (by rw [stepR, HG.out, if_pos ⟨hn, hmay, bytes_eq ‹_›⟩])] at hD
            go_roundw
            case rel => exact ⟨k + n, f - 1, out ++ [c], by omega, by omega, by go_num, by simp; omega, by rw [hD]; simp, by simpa using hown3⟩
            case measure => simp [intOf]; omega
        · have hm' : mayB c = false := by simpa using hmay
          go_wp2_with (go_at_call 17; refine (guess_any s k _ hlt (by omega)).mono ?_; rw [HG.out]; rintro e w' ⟨rfl, rfl⟩)
          go_quiet ((go_at_call 15; exact quietL (rmay_any _ _)))
          go_wp2
          go_ret2
          have hD := HD2.out
          rw [dec_stop (stepR s) s.size f k hlt hf (by rw [stepR, HG.out]; simp [hm'])] at hD
          subst hD
          exact ⟨_, rfl, by simpa using own_sli (Hown.out.drewN nq), (Hown.out.drewN nq).ext⟩
    · go_wp2
      go_ret2
      have hD := HD2.out
      rw [dec_end (stepR s) s.size f k hlt] at hD
      subst hD
      exact ⟨_, rfl, by simpa using own_sli Hown.out, Hown.out.ext⟩

end Go.Proofs.Ytfacgdjfeogalaa
