/- The digest's examples (the laws' 'awake'): by the kernel's run of the printed function. -/
import Derived.Test.YtmjedihfibdhfaaDig
import Derived.KernelRfl
namespace Go.Proofs.Ytmjedihfibdhfaa.Dig
open Go.RowKit Go.Proofs.Ytmjedihfibdhfaa.Q Go.Proofs.YtmjedihfibdhfaaW.PrintWords Go.Proofs.YtmjedihfibdhfaaW.PrintLast Go.Proofs.YtmjedihfibdhfaaW.PrintMore
theorem awake_40 : examboardlaw11_awake.f 40 = some true := by
  unfold examboardlaw11_awake.f
  simp only [Go.ByteArray.toList_eq]
  kernel_rfl
theorem awake_is {k : Nat} (hk : 40 ≤ k) : examboardlaw11_awake.f k = some true := at_rounds (fun k => examboardlaw11_awake.mono k) hk awake_40
end Go.Proofs.Ytmjedihfibdhfaa.Dig
