/- What a law's parameters are read as; the law's pure statement. -/
import Derived.Test.YtopannfdcikgiaaOpen
import Derived.Test.YtopannfdcikgiaaPFnExactOrderOfx3
import Derived.KernelRfl
namespace Go.Proofs.Ytopannfdcikgiaa.PFnExactOrderOf
open Go.RowKit Go.Proofs.YtopannfdcikgiaaW.PrintWords Go.Proofs.YtopannfdcikgiaaW.PrintLast Go.Proofs.Ytopannfdcikgiaa.Open
set_option linter.unusedVariables false
theorem op3 : Opens Try.prog 3 1 (Kd.int .i64) (fun n => I64 n) := opens_i64 Try.underlying3 (by kernel_rfl)
theorem op29 : Opens Try.prog 29 1 (Kd.slice 3 (Kd.int .i64)) (fun xs => ∀ x ∈ xs, I64 x) := opens_slice Try.underlying29 (by kernel_rfl) rfl op3
def laws_FnExactOrderOf.PureS : Prop := ∀ (l0 : (List Int)) (l1 : (List Int)), (∀ x ∈ l0, I64 x) → (∀ x ∈ l1, I64 x) → ∃ k, laws_FnExactOrderOf.f k l0 l1 = some true
end Go.Proofs.Ytopannfdcikgiaa.PFnExactOrderOf
