/- Walks: bytes to characters, by a range over the string. -/
import Derived.Test.YtfacgdjfeogalaaGlyphE
namespace Go.Proofs.Ytfacgdjfeogalaa
open Go.RowKit

/-- Does a string begin with another one? -/
def hpB (a b : ByteArray) : Bool := decide (b.size ≤ a.size) && ((a.extract 0 b.size).toList == b.toList)

set_option maxHeartbeats 400000 in
theorem hasPrefixLite_any (a b : ByteArray) (w : World) (ha : a.size ≤ 9223372036854775807) (hb : b.size ≤ 9223372036854775807) :
    Calls Try.prog 25 #[.string a, .string b] w fun e w' => e = .returned (.bool (hpB a b)) ∧ w = w' := by
  by_cases h : b.size ≤ a.size
  · go_enter Try.func25, Try.ntmps25
    go_wp2
    go_ret
    exact ⟨by simp [hpB, h], rfl⟩
  · go_enter Try.func25, Try.ntmps25
    go_wp2
    go_ret
    exact ⟨by simp [hpB, h], rfl⟩
set_option maxHeartbeats 400000 in
theorem hasPrefix_any (a b : ByteArray) (w : World) (ha : a.size ≤ 9223372036854775807) (hb : b.size ≤ 9223372036854775807) :
    Calls Try.prog 16 #[.string a, .string b] w fun e w' => e = .returned (.bool (hpB a b)) ∧ w = w' := by
  go_enter Try.func16, Try.ntmps16
  go_wp2_with (go_at_call 25; refine (hasPrefixLite_any _ _ _ ha hb).mono ?_; rintro e w' ⟨rfl, rfl⟩)
  go_ret
  exact ⟨rfl, rfl⟩

/-- A world in which a string's iterator stands elsewhere. -/
def setIter (w : World) (b : Nat) (s : ByteArray) (k : Nat) : World := { w with heap := w.heap.setIfInBounds b (.stringIter s k) }
theorem run_next_at {P : Program} (w : World) (b : Nat) (s : ByteArray) (pos : Nat) (ty : TypeId) (hb : w.heap[b]? = some (.stringIter s pos)) (h : pos < s.size) :
    (Instr.next (.pointer (some ⟨b, 0, none⟩)) true ty).run P w =
      .ok (.tuple #[.bool true, .int .i64 pos, .int .i32 (Utf8.decode s pos).1]) (setIter w b s (pos + (Utf8.decode s pos).2)) := by
  simp only [Instr.next, getObj, setObj, Sem.run_bind, Sem.run, hb, Result.andThen, h, if_true]
  simp [goInt, setIter]
theorem run_next_stop {P : Program} (w : World) (b : Nat) (s : ByteArray) (pos : Nat) (ty : TypeId) (hb : w.heap[b]? = some (.stringIter s pos)) (h : ¬ pos < s.size) :
    (Instr.next (.pointer (some ⟨b, 0, none⟩)) true ty).run P w = .ok (.tuple #[.bool false]) w := by
  simp [Instr.next, getObj, Sem.run, hb, h]
theorem setIter_grown (w : World) (b : Nat) (s : ByteArray) (k : Nat) : w.grownBy (setIter w b s k) (some b) :=
  ⟨rfl, rfl, rfl, by simp [setIter], fun i hi hne => by
    simp only [setIter]
    rw [Array.getElem?_setIfInBounds_ne (by rintro rfl; exact hne rfl)]⟩
theorem setIter_at (w : World) (b : Nat) (s : ByteArray) (k : Nat) (h : b < w.heap.size) : (setIter w b s k).heap[b]? = some (.stringIter s k) := by
  simp [setIter, h]
theorem own_ne_iter {w0 w : World} {e : TypeId} {size n : Nat} {v : Value} {xs : List Value} {b k : Nat} {s : ByteArray} (h : Own w0 w e size n v xs) (hb : w.heap[b]? = some (.stringIter s k)) : v.ownBlock ≠ some b := by
  intro he
  rcases h.own.2 with ⟨rfl, _⟩ | ⟨g, cap, cur, rfl, _, hg, _⟩
  · simp [Value.ownBlock] at he
  · simp only [Value.ownBlock, Option.some.injEq] at he
    subst he
    rw [hb] at hg
    cases hg
theorem own_iter {w0 w : World} {e : TypeId} {size n : Nat} {v : Value} {xs : List Value} {b k k' : Nat} {s : ByteArray} (h : Own w0 w e size n v xs) (hb : w.heap[b]? = some (.stringIter s k)) (h0 : w0.heap.size ≤ b) : Own w0 (setIter w b s k') e size n v xs :=
  ⟨h.own.kept (setIter_grown w b s k') (.inr (own_ne_iter h hb)), h.ext.grown (setIter_grown w b s k') (fun i hi => by injection hi with hi; omega)⟩

theorem iter_kept {w1 w3 : World} {o : Obj} {v : Value} {b k : Nat} {s : ByteArray} (hg : (w1.alloc o).grownBy w3 v.ownBlock) (hne : v.ownBlock ≠ some b) (hb : w1.heap[b]? = some (.stringIter s k)) : w3.heap[b]? = some (.stringIter s k) := by
  have hlt : b < w1.heap.size := (Array.getElem?_eq_some_iff.1 hb).1
  rw [hg.block b (by simp; omega) (fun e => hne e.symm), Below.heap_alloc w1 o b hlt]
  exact hb
theorem iterPos_of {w : World} {b k : Nat} {s : ByteArray} (hb : w.heap[b]? = some (.stringIter s k)) : w.iterPos b = k := by simp [World.iterPos, hb]

def stepG (s : ByteArray) (k : Nat) : Option (Int × Nat) :=
  if ((Utf8.decode s k).1 : Int) = 65533 ∧ hpB (s.extract k s.size) ⟨#[239, 191, 189]⟩ = false then none else some (((Utf8.decode s k).1 : Int), (Utf8.decode s k).2)

theorem width_pos (s : ByteArray) (pos : Nat) (h : pos < s.size) : 1 ≤ (Utf8.decode s pos).2 := by
  by_cases ha : (s[pos]'h).toNat < 128
  · rw [decode_ascii s pos h ha]
    exact Nat.le_refl _
  · exact (decode_high s pos h (by omega)).2

set_option maxHeartbeats 1000000 in
theorem decode_any (s : ByteArray) (w : World) (hm : s.size ≤ 100000) :
    Calls Try.prog 6 #[.string s] w fun e w' => ∃ v, e = .returned (.tuple #[v, .int .i64 (decBy (stepG s) s.size s.size 0).2]) ∧ SlI w' v .i64 (decBy (stepG s) s.size s.size 0).1 ∧ Ext w w' := by
  generalize hD : decBy (stepG s) s.size s.size 0 = D
  have HD := Lib.hid hD
  clear hD
  go_enter Try.func6, Try.ntmps6
  go_wp2_with fail
  go_loopw [4] (fun v wr => ∃ (k f : Nat) (out : List Int), s.size ≤ k + f ∧ out.length ≤ k ∧ out.length ≤ s.size ∧ D = (out ++ (decBy (stepG s) s.size f k).1, (decBy (stepG s) s.size f k).2) ∧ wr.heap[w.heap.size]? = some (.stringIter s k) ∧ Own w wr 3 1 out.length v (out.map (.int .i64))) (fun _ wr => s.size - wr.iterPos w.heap.size)
  case atStart => exact ⟨0, s.size, [], by omega, Nat.zero_le _, Nat.zero_le _, by rw [HD.out]; rfl, World.iter_heap w s 0, Own.nil_ _ _ ((Ext.refl _).alloc _)⟩
  case round =>
    obtain ⟨k, f, out, hf, hol, hos, hD, hit, hown⟩ := hrel
    have Hown := Lib.hid hown
    have HD2 := Lib.hid hD
    have Hit := Lib.hid hit
    have hpos : wr.iterPos w.heap.size = k := by simp [World.iterPos, hit]
    have Hpos := Lib.hid hpos
    clear hown hD hit hpos
    by_cases hlt : k < s.size
    · have hwp := width_pos s k hlt
      have hle := decode_le s k
      have hnx := fun ty => run_next_at (P := Try.prog) wr w.heap.size s k ty Hit.out hlt
      have ho1 := own_iter (k' := k + (Utf8.decode s k).2) Hown.out Hit.out (Nat.le_refl _)
      have hi1 := setIter_at wr w.heap.size s (k + (Utf8.decode s k).2) (Array.getElem?_eq_some_iff.1 Hit.out).1
      generalize hd : Utf8.decode s k = d at *
      obtain ⟨c, n⟩ := d
      have Hd := Lib.hid hd
      simp only at hwp hle hnx ho1 hi1
      have Ho1 := Lib.hid ho1
      have Hi1 := Lib.hid hi1
      generalize setIter wr w.heap.size s (k + n) = w1 at *
      clear hd ho1 hi1
      by_cases hc : ((c : Int) == 65533) = true
      · go_wp2_with (first
          | (go_at_call 16; refine (hasPrefix_any _ _ _ (by simp; omega) (by decide)).mono ?_; rintro e w' ⟨rfl, rfl⟩)
          | (at_builtin; refine wpList_app elt_int rfl _ _ rfl rfl (Ho1.out.alloc _) rfl (SlN.made (heap_alloc_new _ _) rfl (Nat.le_refl _)) (by simp [Value.oneCell']) (by omega) (by unfold maxLen; omega) ?_; intro v3 w3 hown3 hgr3))
        · go_ret2
          have hD := HD2.out
          rw [dec_stop (stepG s) s.size f k hlt hf (by rw [stepG, Hd.out, if_pos ⟨by simpa using hc, by simpa using ‹(!hpB _ _) = true›⟩])] at hD
          subst hD
          exact ⟨_, rfl, by simpa using own_sli Ho1.out, Ho1.out.ext⟩
        · have hD := HD2.out
          rw [dec_go (stepG s) s.size f k hlt hf c n (by rw [stepG, Hd.out]; rw [if_neg]; rintro ⟨_, h⟩; simp [h] at *)] at hD
          have hi3 := iter_kept hgr3 (own_ne_iter Ho1.out Hi1.out) Hi1.out
          have hp3 := iterPos_of hi3
          go_roundw
          case rel => exact ⟨k + n, f - 1, out ++ [(c : Int)], by omega, by simp; omega, by simp; omega, by rw [hD]; simp, hi3, by simpa using hown3⟩
          case measure => rw [hp3, Hpos.out]; omega
      · have hc' : ((c : Int) == 65533) = false := by simpa using hc
        go_wp2_with (at_builtin; refine wpList_app elt_int rfl _ _ rfl rfl (Ho1.out.alloc _) rfl (SlN.made (heap_alloc_new _ _) rfl (Nat.le_refl _)) (by simp [Value.oneCell']) (by omega) (by unfold maxLen; omega) ?_; intro v3 w3 hown3 hgr3)
        have hD := HD2.out
        rw [dec_go (stepG s) s.size f k hlt hf c n (by rw [stepG, Hd.out]; rw [if_neg]; rintro ⟨h, _⟩; simp [h] at hc')] at hD
        have hi3 := iter_kept hgr3 (own_ne_iter Ho1.out Hi1.out) Hi1.out
        have hp3 := iterPos_of hi3
        go_roundw
        case rel => exact ⟨k + n, f - 1, out ++ [(c : Int)], by omega, by simp; omega, by simp; omega, by rw [hD]; simp, hi3, by simpa using hown3⟩
        case measure => rw [hp3, Hpos.out]; omega
    · have hnx := fun ty => run_next_stop (P := Try.prog) wr w.heap.size s k ty Hit.out hlt
      go_wp2
      go_ret2
      have hD := HD2.out
      rw [dec_end (stepG s) s.size f k hlt] at hD
      subst hD
      exact ⟨_, rfl, by simpa using own_sli Hown.out, Hown.out.ext⟩

end Go.Proofs.Ytfacgdjfeogalaa
