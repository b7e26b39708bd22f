/- The kinds of this seat's arguments, opened. -/
import Derived.Test.YtegomjkgbeijlaaOpen
import Derived.Test.YtegomjkgbeijlaaSv0
namespace Go.Proofs.Ytegomjkgbeijlaa.OpenK
set_option linter.unusedVariables false
set_option linter.unusedSimpArgs false
set_option linter.unusedSectionVars false
set_option linter.unnecessarySimpa false
open Go.Proofs.YtegomjkgbeijlaaW.PrintWords Go.Proofs.Ytegomjkgbeijlaa.Sv
def opens3_Q (n : Int) : Prop := (Lit.int .i64 n).wf = true
theorem opens3 : Opens Try.prog (Kd.int .i64) opens3_Q 3 := opens_int Try.underlying3
def opens32_Q (v : S32) : Prop := (Lit.int .i64 v.f0).wf = true ∧ (Lit.int .i64 v.f1).wf = true ∧ v.f2.size ≤ maxLen
theorem opens32 : Opens Try.prog k32 opens32_Q 32 :=
  opens_iso (fun v => ⟨v.1, v.2.1, v.2.2⟩) (fun _ => rfl) (opens_struct Try.underlying32
    (opensF_cons rfl rfl (by kernel_rfl) (opens_int Try.underlying3) (opensF_cons rfl rfl (by kernel_rfl) (opens_int Try.underlying3) (opensF_last rfl rfl (by kernel_rfl) (by kernel_rfl) (opens_string Try.underlying9)))))
def opens34_Q (v : S34) : Prop := opens32_Q v.f0 ∧ (Lit.int .i64 v.f1).wf = true ∧ (Lit.int .i64 v.f2).wf = true
theorem opens34 : Opens Try.prog k34 opens34_Q 34 :=
  opens_iso (fun v => ⟨v.1, v.2.1, v.2.2⟩) (fun _ => rfl) (opens_struct Try.underlying34
    (opensF_cons rfl rfl (by kernel_rfl) opens32 (opensF_cons rfl rfl (by kernel_rfl) (opens_int Try.underlying3) (opensF_last rfl rfl (by kernel_rfl) (by kernel_rfl) (opens_int Try.underlying3)))))
end Go.Proofs.Ytegomjkgbeijlaa.OpenK
