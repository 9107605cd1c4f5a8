/- Rows of bytes as they are read. No conditions. -/
import Derived.Test.YtbpebpkepflliaaRd
import Derived.Test.YtbpebpkepflliaaEnb
import Derived.Test.YtbpebpkepflliaaChecked
namespace Go.Proofs.Ytbpebpkepflliaa
open Go.RowKit Go.ChangeShapes Go.WideShapes Go.Deep
set_option linter.unusedVariables false
set_option linter.unusedSimpArgs false

theorem rd_u8s : Rd Try.prog 22 (fun w cs (l : List Int) => ∃ v, cs = [v] ∧ Sls 1 (fun _ cs (n : Int) => cs = [.int .u8 n] ∧ IntKind.u8.min ≤ n ∧ n ≤ IntKind.u8.max) w v l ∧ l.length ≤ maxLen) :=
  rd_slice Try.underlying22 (by kernel_rfl) (by decide) (rd_int Try.underlying5)
end Go.Proofs.Ytbpebpkepflliaa
