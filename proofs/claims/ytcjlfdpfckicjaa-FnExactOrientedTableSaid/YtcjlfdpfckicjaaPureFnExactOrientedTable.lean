/- The plain law of FnExactOrientedTable, joined from its facts. -/
import Derived.Test.YtcjlfdpfckicjaaKExactOrientedTableFall
namespace Go.Proofs.Ytcjlfdpfckicjaa.Pure
theorem FnExactOrientedTable : Go.Proofs.Ytcjlfdpfckicjaa.Print.laws_FnExactOrientedTable.Pure := Go.Proofs.Ytcjlfdpfckicjaa.Print.laws_FnExactOrientedTable.pure_
end Go.Proofs.Ytcjlfdpfckicjaa.Pure
