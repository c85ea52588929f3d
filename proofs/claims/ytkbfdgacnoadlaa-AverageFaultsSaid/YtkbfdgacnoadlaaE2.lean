/- What operations on memory yield, for the walk of XE1. -/
import Derived.Test.YtkbfdgacnoadlaaE1
import Derived.Test.YtkbfdgacnoadlaaBase
namespace Go.Proofs.Ytkbfdgacnoadlaa
open Go Go.RowKit

theorem below_load {w w' : World} (hb : Below w.heap.size w w') {p : Addr} {v : Value} (h : w.cell? p = some v) : w'.cell? p = some v := (hb.cell (block_lt_of_cell h)).trans h
end Go.Proofs.Ytkbfdgacnoadlaa
