/- The part of the lines that is used: the program's and the reference's, told by one plain number. -/
import Derived.Test.YtfeadincafegcaaGxImpl27
import Derived.Test.YtfeadincafegcaaGxSpec27
import Derived.Test.YtfeadincafegcaaPureLinesOf
namespace Go.Proofs.Ytfeadincafegcaa.Pure
open Go.RowKit Go.Proofs.Ytfeadincafegcaa.P Go.Proofs.YtfeadincafegcaaW.PrintWords Go.Proofs.YtfeadincafegcaaW.PrintLast Go.Proofs.YtfeadincafegcaaW.PrintMore

theorem impl_LineUse_open (k : Nat) (l : List Int) (m u : Int) (ls : List Int) (h1 : impl_UsedWords.f k l m = some u) (h2 : impl_LinesOf.f k l m = some ls) (h : ¬ u < 0 → ¬ u = 0 → ¬ wrap64 (8 * (ls.length : Int)) = 0) : impl_LineUse.f k l m = some (useN u (ls.length : Int)) := by
  unfold impl_LineUse.f useN
  rw [h1, Option.bind_some]
  by_cases c0 : u < 0
  · rw [if_pos c0, if_pos c0]
  · rw [if_neg c0, if_neg c0]
    by_cases c1 : u = 0
    · rw [if_pos c1, if_pos c1]
    · rw [if_neg c1, if_neg c1, h2, Option.bind_some, if_neg (h c0 c1)]
theorem spec_LineUse_open (k : Nat) (l : List Int) (m u : Int) (ls : List Int) (h1 : spec_UsedWords.f k l m = some u) (h2 : spec_LinesOf.f k l m = some ls) (h : ¬ u < 0 → ¬ u = 0 → ¬ wrap64 (8 * (ls.length : Int)) = 0) : spec_LineUse.f k l m = some (useN u (ls.length : Int)) := by
  unfold spec_LineUse.f useN
  rw [h1, Option.bind_some]
  by_cases c0 : u < 0
  · rw [if_pos c0, if_pos c0]
  · rw [if_neg c0, if_neg c0]
    by_cases c1 : u = 0
    · rw [if_pos c1, if_pos c1]
    · rw [if_neg c1, if_neg c1, h2, Option.bind_some, if_neg (h c0 c1)]
theorem impl_LineUse_is (l : List Int) (m : Int) (k : Nat) (hk : 40 ≤ k) : impl_LineUse.f k l m = some (useL l m) :=
  impl_LineUse_open k l m (usedW l m) (linesL l m) (impl_UsedWords_is l m k hk) (impl_LinesOf_is l m k hk) (use_ne l m)
theorem spec_LineUse_is (l : List Int) (m : Int) (hl : l.length ≤ 1048576) (k : Nat) (hk : l.length + 40 < k) : spec_LineUse.f k l m = some (useL l m) :=
  spec_LineUse_open k l m (usedW l m) (linesL l m) (spec_UsedWords_is l m hl k hk) (spec_LinesOf_is l m hl k hk) (use_ne l m)

end Go.Proofs.Ytfeadincafegcaa.Pure
