/- Walks of the small functions of the layer glyph and of its reference: what is a character, which class it has. -/
import Derived.Test.YtfacgdjfeogalaaRows
import Derived.WalkKit
import Derived.WalkSpells
import Derived.WalkLawsBesides
namespace Go.Proofs.Ytfacgdjfeogalaa
open Go.RowKit

/-- Is there such a character? -/
def mayB (c : Int) : Bool := decide (0 ≤ c ∧ c ≤ 1114111 ∧ (c < 55296 ∨ 57343 < c))

set_option maxHeartbeats 400000 in
theorem may_any (c : Int) (w : World) :
    Calls Try.prog 14 #[.int .i64 c] w fun e w' => e = .returned (.bool (mayB c)) ∧ w = w' := by
  go_enter Try.func14, Try.ntmps14
  go_wp2
  all_goals go_ret
  all_goals refine ⟨?_, rfl⟩
  all_goals simp [mayB]
  all_goals first | omega | (rw [Bool.eq_iff_iff]; simp; omega)

set_option maxHeartbeats 400000 in
theorem rmay_any (c : Int) (w : World) :
    Calls Try.prog 15 #[.int .i64 c] w fun e w' => e = .returned (.bool (mayB c)) ∧ w = w' := by
  go_enter Try.func15, Try.ntmps15
  go_wp2
  all_goals go_ret
  all_goals refine ⟨?_, rfl⟩
  all_goals simp [mayB]
  all_goals first | omega | (rw [Bool.eq_iff_iff]; simp; omega)

def funL : List Int := [0x2B, 0x2D, 0xD7, 0xF7, 0x2308, 0x230A, 0x7C, 0x2A, 0x21, 0x7E, 0x3C, 0x2264, 0x3D, 0x2265, 0x3E, 0x2260, 0x2227, 0x2228, 0x2374, 0x2C, 0x236A, 0x233D, 0x2296, 0x2349, 0x2191, 0x2193, 0x2282, 0x2283, 0x2261, 0x2262, 0x2373, 0x220A, 0x222A, 0x2229, 0x2378, 0x234B, 0x2352, 0x22A2, 0x22A3]
def opL : List Int := [0x2F, 0x233F, 0x5C, 0x2340, 0xA8, 0x2368, 0x2364, 0x2363, 0x2218, 0x2E]
def markL : List Int := [0x28, 0x29, 0x5B, 0x5D, 0x7B, 0x7D, 0x3B, 0x3A, 0x22C4, 0x2190, 0x237A, 0x2375, 0x2207, 0x2395, 0x235E, 0x27, 0x235D]
def funB (c : Int) : Bool := funL.contains c
def clsI (c : Int) : Int :=
  if c = 32 ∨ c = 9 then 1 else if 97 ≤ c ∧ c ≤ 122 ∨ 65 ≤ c ∧ c ≤ 90 ∨ c = 95 then 2 else if 48 ≤ c ∧ c ≤ 57 ∨ c = 175 then 3
  else if funL.contains c then 4 else if opL.contains c then 5 else if markL.contains c then 6 else 0

set_option maxHeartbeats 400000 in
theorem function_any (c : Int) (w : World) :
    Calls Try.prog 20 #[.int .i64 c] w fun e w' => e = .returned (.bool (funB c)) ∧ w = w' := by
  go_enter Try.func20, Try.ntmps20
  go_wp2
  all_goals go_ret
  all_goals refine ⟨?_, rfl⟩
  all_goals simp_all [funB, funL]

set_option maxHeartbeats 1000000 in
theorem class_any (c : Int) (w : World) :
    Calls Try.prog 12 #[.int .i64 c] w fun e w' => e = .returned (.int .i64 (clsI c)) ∧ w = w' := by
  go_enter Try.func12, Try.ntmps12
  go_wp2_with (go_at_call 20; refine (function_any c _).mono ?_; rintro e w' ⟨rfl, rfl⟩)
  all_goals go_ret
  all_goals refine ⟨?_, rfl⟩
  all_goals (refine congrArg (fun n : Int => Ending.returned (.int .i64 n)) (?_ : (_ : Int) = clsI c))
  all_goals (try simp only [beq_iff_eq, beq_eq_false_iff_ne, ne_eq] at *)
  all_goals (unfold clsI)
  all_goals (first | (rw [if_pos (by omega)]; done) | (rw [if_neg (by omega), if_pos (by omega)]; done) | (rw [if_neg (by omega), if_neg (by omega), if_pos (by omega)]; done) | (rw [if_neg (by omega), if_neg (by omega), if_neg (by omega)]; simp_all [funB, opL, markL]))

end Go.Proofs.Ytfacgdjfeogalaa
