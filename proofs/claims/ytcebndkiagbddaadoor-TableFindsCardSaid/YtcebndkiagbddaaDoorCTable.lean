/- package table: slots of keys; contracts. -/
import Derived.Test.YtcebndkiagbddaaDoorCKeysG
namespace Go.Proofs.YtcebndkiagbddaaDoor
open Go.RowKit
set_option linter.unusedVariables false
set_option linter.unusedSimpArgs false

/-- Three places for keys. -/
abbrev stE3 (c l n : KS) : EV := .agg [.b c.live, .s c.send, .s c.take, .i c.mine, .i c.theirs, .i c.born, .i c.cnt, .b c.sn, .i c.la, .u64 c.bi, .b c.first, .b l.live, .s l.send, .s l.take, .i l.mine, .i l.theirs, .i l.born, .i l.cnt, .b l.sn, .i l.la, .u64 l.bi, .b l.first, .b n.live, .s n.send, .s n.take, .i n.mine, .i n.theirs, .i n.born, .i n.cnt, .b n.sn, .i n.la, .u64 n.bi, .b n.first]
end Go.Proofs.YtcebndkiagbddaaDoor
