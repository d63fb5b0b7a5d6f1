/- Tasks that make dust: when one is valid, by the program and by the reference; and the walk of the law. Conditions: the facts on memory that each theorem names. -/
import Derived.Test.YtlgagnbnjfneaaaBase
import Derived.Handy
namespace Go.Proofs.Ytlgagnbnjfneaaa
open Go.RowKit
open Pl
end Go.Proofs.Ytlgagnbnjfneaaa
