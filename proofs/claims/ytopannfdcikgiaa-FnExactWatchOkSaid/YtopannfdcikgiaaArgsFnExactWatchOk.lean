/- What a law's parameters are read as; the law's pure statement. -/
import Derived.Test.YtopannfdcikgiaaOpen
import Derived.Test.YtopannfdcikgiaaPFnExactWatchOkx1
import Derived.KernelRfl
namespace Go.Proofs.Ytopannfdcikgiaa.PFnExactWatchOk
open Go.RowKit Go.Proofs.YtopannfdcikgiaaW.PrintWords Go.Proofs.YtopannfdcikgiaaW.PrintLast Go.Proofs.Ytopannfdcikgiaa.Open
set_option linter.unusedVariables false
theorem op3 : Opens Try.prog 3 1 (Kd.int .i64) (fun n => I64 n) := opens_i64 Try.underlying3 (by kernel_rfl)
theorem op9 : Opens Try.prog 9 1 Kd.string (fun s => s.size ≤ 9223372036854775807) := opens_str Try.underlying9 (by kernel_rfl)
def laws_FnExactWatchOk.Pure : Prop := ∀ (a0_0 : Int) (a0_1 : ByteArray) (a0_2 : ByteArray), (I64 a0_0) → (a0_1.size ≤ 9223372036854775807) → (a0_2.size ≤ 9223372036854775807) → ∃ k, laws_FnExactWatchOk.f k a0_0 a0_1 a0_2 = some true
end Go.Proofs.Ytopannfdcikgiaa.PFnExactWatchOk
