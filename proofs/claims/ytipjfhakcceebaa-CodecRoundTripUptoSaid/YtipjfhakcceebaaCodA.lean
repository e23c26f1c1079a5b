/- The chapter's example, run once by the kernel; more rounds tell the same. -/
import Derived.Test.YtipjfhakcceebaaQx10
namespace Go.Proofs.Ytipjfhakcceebaa.Cod
open Go.RowKit Go.Proofs.Ytipjfhakcceebaa.Q Go.Proofs.YtipjfhakcceebaaW.PrintWords Go.Proofs.YtipjfhakcceebaaW.PrintLast Go.Proofs.YtipjfhakcceebaaW.PrintMore
set_option maxRecDepth 100000
theorem more {α : Type} {f : Nat → Option α} (hm : ∀ k, LeO (f k) (f (k + 1))) {r : α} {k : Nat} (e : f k = some r) : ∀ d, f (k + d) = some r
  | 0 => e
  | d + 1 => hm _ r (more hm e d)
theorem awake_64 : examboardlaw10_awake.f 64 = some true := by kernel_rfl
theorem awake_is {k : Nat} (hk : 64 ≤ k) : examboardlaw10_awake.f k = some true := by
  obtain ⟨d, rfl⟩ := Nat.exists_eq_add_of_le hk
  exact more (f := examboardlaw10_awake.f) (fun k => examboardlaw10_awake.mono k) awake_64 d
end Go.Proofs.Ytipjfhakcceebaa.Cod
