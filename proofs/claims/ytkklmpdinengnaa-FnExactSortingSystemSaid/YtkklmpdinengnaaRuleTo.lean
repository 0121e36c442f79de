/- Walks over the laws' helpers that copy arguments: toRule, toRuleS, szRule, szRuleS. -/
import Derived.Test.YtkklmpdinengnaaRule
namespace Go.Proofs.Ytkklmpdinengnaa
open Go.ChangeShapes Go.WideShapes Go.ChangeAt Go.RowKit Go.Shelf





end Go.Proofs.Ytkklmpdinengnaa
