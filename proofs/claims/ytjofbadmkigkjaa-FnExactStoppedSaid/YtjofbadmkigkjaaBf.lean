/- Walks of what the laws use to measure, copy, compare, mark and look again at structs (Config:mark, Table:mark, Request:mark, Ask:mark). -/
import Derived.Test.YtjofbadmkigkjaaBe
set_option linter.unusedSimpArgs false
set_option linter.unusedVariables false
set_option maxRecDepth 20000
namespace Go.Bi
open Go.Proofs
open Go.Ai (wrap_i64 wrap_u64 wrap_u8)
variable {W0 : World}
end Go.Bi
