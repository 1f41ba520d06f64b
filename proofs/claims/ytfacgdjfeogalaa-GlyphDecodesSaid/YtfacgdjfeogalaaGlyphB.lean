import Derived.Test.YtfacgdjfeogalaaMem
import Derived.Test.YtfacgdjfeogalaaGlyphA
import Derived.Deep.QuietTactic
import Derived.BigQuiet
namespace Go.Proofs.Ytfacgdjfeogalaa
open Go.RowKit

theorem contains_snoc (l : List Int) (k : Nat) (hk : k < l.length) (c : Int) : (l.take (k + 1)).contains c = ((l.take k).contains c || l[k] == c) := by
  rw [List.take_succ_eq_append_getElem hk, Bool.eq_iff_iff]
  simp only [List.contains_iff_mem, List.mem_append, List.mem_singleton, Bool.or_eq_true, beq_iff_eq]
  constructor
  · rintro (h | h)
    · exact .inl h
    · exact .inr h.symm
  · rintro (h | h)
    · exact .inl h
    · exact .inr h.symm
theorem in_hit (l : List Int) (k : Nat) (hk : k < l.length) (c : Int) (h : (l[k] == c) = true) : l.contains c = true := by
  rw [beq_iff_eq] at h; subst h; simp
theorem in_out (l : List Int) (k : Nat) (hk : ¬ k < l.length) (c : Int) (h : (l.take k).contains c = false) : l.contains c = false := by
  rw [List.take_of_length_le (by omega)] at h; exact h

/-- Is a number in a list? -/
def inB (l : List Int) (c : Int) : Bool := l.contains c

set_option maxHeartbeats 400000 in
theorem in_any (l : List Int) (v : Value) (c : Int) (w : World) (h : SlI w v .i64 l) (hm : l.length ≤ maxLen) :
    Calls Try.prog 21 #[v, .int .i64 c] w fun e w' => e = .returned (.bool (inB l c)) ∧ w = w' := by
  unfold maxLen at hm
  obtain ⟨A, cp, rfl, hc, h⟩ := h.form
  have H := Lib.hid h
  clear h
  go_enter Try.func21, Try.ntmps21
  go_wp2
  go_loop [5] (fun i => ∃ k : Nat, k ≤ l.length ∧ i = .int .i64 k ∧ (l.take k).contains c = false) (fun i => l.length - (intOf i).toNat)
  case atStart => exact ⟨0, Nat.zero_le _, rfl, rfl⟩
  case round =>
    obtain ⟨k, hk, rfl, hn⟩ := hrel
    have Hn := Lib.hid hn
    clear hn
    by_cases hlt : k < l.length
    · obtain ⟨ad, rfl, hb, hcell⟩ := H.out k hlt
      go_wp2
      · go_ret
        exact ⟨by rw [inB, in_hit l k hlt c (by assumption)]; rfl, rfl⟩
      · go_round
        case rel => exact ⟨k + 1, by omega, by go_num, by rw [contains_snoc l k hlt, Hn.out]; simpa using ‹(l[k] == c) = false›⟩
        case measure => simp [intOf]; omega
    · go_wp2
      go_ret
      exact ⟨by rw [inB, in_out l k hlt c Hn.out]; rfl, rfl⟩

set_option maxHeartbeats 400000 in
theorem functions_any (w : World) : Calls Try.prog 22 #[] w (RetSlI .i64 funL w) := by
  go_enter Try.func22, Try.ntmps22
  go_wp2
  go_ret
  exact ⟨_, rfl, SlI.made (heap_alloc_new _ _) rfl (Nat.le_refl _), (Ext.refl _).alloc _⟩

set_option maxHeartbeats 400000 in
theorem operators_any (w : World) : Calls Try.prog 23 #[] w (RetSlI .i64 opL w) := by
  go_enter Try.func23, Try.ntmps23
  go_wp2
  go_ret
  exact ⟨_, rfl, SlI.made (heap_alloc_new _ _) rfl (Nat.le_refl _), (Ext.refl _).alloc _⟩

set_option maxHeartbeats 400000 in
theorem marks_any (w : World) : Calls Try.prog 24 #[] w (RetSlI .i64 markL w) := by
  go_enter Try.func24, Try.ntmps24
  go_wp2
  go_ret
  exact ⟨_, rfl, SlI.made (heap_alloc_new _ _) rfl (Nat.le_refl _), (Ext.refl _).alloc _⟩

set_option maxHeartbeats 1000000 in
theorem rclass_any (c : Int) (w : World) :
    Calls Try.prog 13 #[.int .i64 c] w fun e w' => e = .returned (.int .i64 (clsI c)) ∧ Ext w w' := by
  have lf : funL.length ≤ maxLen := by decide
  have lo : opL.length ≤ maxLen := by decide
  have lm : markL.length ≤ maxLen := by decide
  have Hf := Lib.hid lf; have Ho := Lib.hid lo; have Hm := Lib.hid lm
  clear lf lo lm
  go_enter Try.func13, Try.ntmps13
  go_wp2_with (first
    | (go_at_call 22; refine (functions_any _).mono ?_; rintro e w1 ⟨v1, rfl, hs1, hb1⟩)
    | (go_at_call 23; refine (operators_any _).mono ?_; rintro e w2 ⟨v2, rfl, hs2, hb2⟩)
    | (go_at_call 24; refine (marks_any _).mono ?_; rintro e w3 ⟨v3, rfl, hs3, hb3⟩)
    | (go_at_call 21; refine (in_any _ _ _ _ (by assumption) (by first | exact Hf.out | exact Ho.out | exact Hm.out)).mono ?_; rintro e w4 ⟨rfl, rfl⟩))
  all_goals go_ret
  all_goals (refine ⟨?_, (by repeat (first | exact Ext.refl _ | assumption | apply Ext.alloc | apply Ext.drewN | apply Ext.drew | refine Ext.trans ?_ (by assumption)))⟩)
  all_goals (refine congrArg (fun n : Int => Ending.returned (.int .i64 n)) (?_ : (_ : Int) = clsI c))
  all_goals (try simp only [beq_iff_eq, beq_eq_false_iff_ne, ne_eq, inB] at *)
  all_goals (unfold clsI)
  all_goals (first | (rw [if_pos (by omega)]; done) | (rw [if_neg (by omega), if_pos (by omega)]; done) | (rw [if_neg (by omega), if_neg (by omega), if_pos (by omega)]; done) | (rw [if_neg (by omega), if_neg (by omega), if_neg (by omega)]; simp_all))

theorem ints_snoc (a b : List Int) (k : Nat) (ha : k < a.length) (hb : k < b.length) (h : a.take k = b.take k) (he : a[k] = b[k]) : a.take (k + 1) = b.take (k + 1) := by
  rw [List.take_succ_eq_append_getElem ha, List.take_succ_eq_append_getElem hb, h, he]

/-- Are two lists of numbers the same? -/
def intsB (a b : List Int) : Bool := decide (a = b)
theorem ints_ne (a b : List Int) (k : Nat) (ha : k < a.length) (hb : k < b.length) (h : (a[k] != b[k]) = true) : intsB a b = false := by
  unfold intsB
  rw [decide_eq_false_iff_not]
  rintro rfl
  simp at h
theorem ints_all (a b : List Int) (k : Nat) (ha : ¬ k < a.length) (hl : a.length = b.length) (h : a.take k = b.take k) : intsB a b = true := by
  unfold intsB
  rw [decide_eq_true_iff]
  rw [List.take_of_length_le (by omega), List.take_of_length_le (by omega)] at h
  exact h

set_option maxHeartbeats 400000 in
theorem ints_any (a b : List Int) (u v : Value) (w : World) (ha : SlI w u .i64 a) (hb : SlI w v .i64 b) (hm : a.length ≤ maxLen) (hn : b.length ≤ maxLen) :
    Calls Try.prog 8 #[u, v] w fun e w' => e = .returned (.bool (intsB a b)) ∧ ∃ n, w' = w.drewN n := by
  unfold maxLen at hm hn
  obtain ⟨A, cp, rfl, hc, ha⟩ := ha.form
  obtain ⟨A', cp', rfl, hc', hb⟩ := hb.form
  have HA := Lib.hid ha
  have HB := Lib.hid hb
  clear ha hb
  by_cases hlen : a.length = b.length
  · have hne : ((a.length : Int) != (b.length : Int)) = false := by simp [hlen]
    have HL := Lib.hid hlen
    clear hlen
    go_enter Try.func8, Try.ntmps8
    go_wp2
    go_loopw [5] (fun i wr => ∃ k : Nat, k ≤ a.length ∧ i = .int .i64 k ∧ a.take k = b.take k ∧ ∃ n, wr = w.drewN n) (fun i _ => a.length - (intOf i).toNat)
    case atStart => exact ⟨0, Nat.zero_le _, rfl, rfl, 0, rfl⟩
    case round =>
      obtain ⟨k, hk, rfl, ht, n, rfl⟩ := hrel
      have Ht := Lib.hid ht
      clear ht
      by_cases hlt : k < a.length
      · have hltb : k < b.length := by have := HL.out; omega
        obtain ⟨ad, rfl, hb1, hc1⟩ := HA.out k hlt
        obtain ⟨ad', rfl, hb2, hc2⟩ := HB.out k hltb
        go_wp2
        go_quiet (fail)
        go_wp2
        · go_ret
          exact ⟨by rw [ints_ne a b k hlt hltb (by assumption)]; rfl, _, (by first | rfl | exact World.drewN_drewN _ _ _)⟩
        · go_roundw
          case rel => exact ⟨k + 1, by omega, by go_num, ints_snoc a b k hlt hltb Ht.out (by simpa using ‹(a[k] != b[k]) = false›), _, (by first | rfl | exact World.drewN_drewN _ _ _)⟩
          case measure => simp [intOf]; omega
      · go_wp2
        go_ret
        exact ⟨by rw [ints_all a b k hlt HL.out Ht.out]; rfl, _, rfl⟩
  · have hne : ((a.length : Int) != (b.length : Int)) = true := by rw [bne_iff_ne]; omega
    go_enter Try.func8, Try.ntmps8
    go_wp2
    go_ret
    exact ⟨by rw [intsB, decide_eq_false (fun h => hlen (congrArg List.length h))]; rfl, 0, rfl⟩

end Go.Proofs.Ytfacgdjfeogalaa
