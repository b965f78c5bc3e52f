import Derived.Test.YtgdofgckjkmhjaaPathRB
import Derived.Test.YtgdofgckjkmhjaaPathZ
import Derived.Test.YtgdofgckjkmhjaaPartG
namespace Go.Proofs.Ytgdofgckjkmhjaa
open Go Go.RowKit

attribute [local go_sem] goodPtr_at rowAt_at
def S8 (n : Nat) (s : Sn) (w' : World) : Prop :=
  rowOf w' (n + 1) = (rsc s).toArray ∧ hasRow w' (n + 1) 69 = true
def C8 (n : Nat) (s : Sn) (w' : World) : Prop :=
  w'.cell? ⟨n, 0, none⟩ = some (.bool s.any) ∧ w'.cell? ⟨n, 1, none⟩ = some (.int .u32 s.top) ∧ w'.cell? ⟨n, 2, none⟩ = some (.int .u64 s.bits) ∧ w'.cell? ⟨n, 3, none⟩ = some (.int .i64 s.came) ∧ w'.cell? ⟨n, 4, none⟩ = some (.int .i64 s.twice) ∧ w'.cell? ⟨n, 5, none⟩ = some (.int .i64 s.lost) ∧
  w'.cell? ⟨n + 1, 0, none⟩ = some (.bool s.any) ∧ w'.cell? ⟨n + 1, 1, none⟩ = some (.int .u32 s.top) ∧ w'.cell? ⟨n + 1, 66, none⟩ = some (.int .i64 s.came) ∧ w'.cell? ⟨n + 1, 67, none⟩ = some (.int .i64 s.twice) ∧ w'.cell? ⟨n + 1, 68, none⟩ = some (.int .i64 s.lost)
end Go.Proofs.Ytgdofgckjkmhjaa
