/- (*token.reader).skip: the place goes to the gap's end. -/
import Derived.Test.YtjhejnhjpjmnmaaDoorTokReader
set_option linter.unusedVariables false
namespace Go.Proofs.YtjhejnhjpjmnmaaDoor
open Go.RowKit
end Go.Proofs.YtjhejnhjpjmnmaaDoor
