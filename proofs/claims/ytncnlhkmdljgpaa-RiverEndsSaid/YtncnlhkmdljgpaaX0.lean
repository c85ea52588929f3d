/- River: an empty slice that was made is a row of one's own. -/
import Derived.Test.YtncnlhkmdljgpaaExA
import Derived.Test.YtncnlhkmdljgpaaEA
import Derived.Test.YtncnlhkmdljgpaaBA
namespace Go.Proofs.Ytncnlhkmdljgpaa
open Go Go.RowKit

theorem own_empty {w : World} {g T base : Nat} (size : Nat) (h : Blk w g T #[]) (hb : base ≤ g) : w.ownsRow base T size (.slice (some ⟨g, 0, none⟩) 0 0) 0 [] :=
  ⟨by simp, .inr ⟨g, 0, #[], rfl, hb, h, Nat.le_refl _, Nat.zero_le _, by simp, by simp⟩⟩
end Go.Proofs.Ytncnlhkmdljgpaa
