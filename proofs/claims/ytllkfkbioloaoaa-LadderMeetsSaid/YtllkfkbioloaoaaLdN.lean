/-
  The ladder on numbers: one rung, all rungs. No program in sight.
-/
import Derived.Test.YtllkfkbioloaoaaFeP
set_option linter.unusedVariables false
set_option linter.unusedSimpArgs false
namespace Go.Bas
/-- a point's double, over the first curve of layer 5. -/
def dX (x z : Int) : Int := (x + z) * (x + z) * ((x - z) * (x - z))
def dZ (x z : Int) : Int := ((x + z) * (x + z) - (x - z) * (x - z)) * ((x + z) * (x + z) + 121665 * ((x + z) * (x + z) - (x - z) * (x - z)))
/-- two points' sum, their difference known. -/
def sX (a b c d : Int) : Int := ((c - d) * (a + b) + (c + d) * (a - b)) * ((c - d) * (a + b) + (c + d) * (a - b))
def sZ (u a b c d : Int) : Int := u * (((c - d) * (a + b) - (c + d) * (a - b)) * ((c - d) * (a + b) - (c + d) * (a - b)))
theorem sX_swap (a b c d : Int) : sX c d a b = sX a b c d := by unfold sX; grind
theorem sZ_swap (u a b c d : Int) : sZ u c d a b = sZ u a b c d := by unfold sZ; grind
/-- two points side by side. -/
structure Two where
  a : Int
  b : Int
  c : Int
  d : Int
def Two.turn (s : Two) : Two := ⟨s.c, s.d, s.a, s.b⟩
/-- one rung for a bit. -/
def Two.rung (u : Int) (bit : Int) (s : Two) : Two :=
  if bit = 1 then ⟨sX s.a s.b s.c s.d, sZ u s.a s.b s.c s.d, dX s.c s.d, dZ s.c s.d⟩ else ⟨dX s.a s.b, dZ s.a s.b, sX s.a s.b s.c s.d, sZ u s.a s.b s.c s.d⟩
/-- after the bits from the 254th down, k of them. -/
def lad (n u : Int) : Nat → Two
  | 0 => ⟨1, 0, u, 1⟩
  | k + 1 => (lad n u k).rung u (n / 2 ^ (254 - k) % 2)
/-- what the program holds: the two points, turned or not. -/
def Two.flip (q : Bool) (s : Two) : Two := if q then s.turn else s
theorem Two.rung_flip (u : Int) (b : Int) (hb : b = 0 ∨ b = 1) (s : Two) : ⟨dX (s.flip (b == 1)).a (s.flip (b == 1)).b, dZ (s.flip (b == 1)).a (s.flip (b == 1)).b, sX (s.flip (b == 1)).a (s.flip (b == 1)).b (s.flip (b == 1)).c (s.flip (b == 1)).d, sZ u (s.flip (b == 1)).a (s.flip (b == 1)).b (s.flip (b == 1)).c (s.flip (b == 1)).d⟩ = ((s.rung u b).flip (b == 1)) := by
  rcases hb with rfl | rfl
  · rfl
  · show (⟨dX s.c s.d, dZ s.c s.d, sX s.c s.d s.a s.b, sZ u s.c s.d s.a s.b⟩ : Two) = ⟨dX s.c s.d, dZ s.c s.d, sX s.a s.b s.c s.d, sZ u s.a s.b s.c s.d⟩
    rw [sX_swap, sZ_swap]
/-- what comes of a number and a point. -/
def ladN (n u : Int) : Int := (lad n u 255).a * (lad n u 255).b ^ (PN - 2)
/-- a secret with bits as they should be, as a number. -/
def clampN (s : Int) : Int := s % 2 ^ 254 / 8 * 8 + 2 ^ 254
end Go.Bas
