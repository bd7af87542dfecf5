/- The pure statement of the law FnExactRunAho. By a program of this session. -/
import Derived.Test.YtoipfgpggcnkmaaCP0
import Derived.Test.YtoipfgpggcnkmaaC6
namespace Go.Proofs.Ytoipfgpggcnkmaa.Pure
open Go.RowKit Go.Proofs.Ytoipfgpggcnkmaa.P Go.Proofs.YtoipfgpggcnkmaaW.PrintWords
def FnExactRunAho_Pure : Prop := ∀ (l0_0 : List Int) (l0_1 : List Int) (l0_2 : List Int) (l0_3 : List (List Int)) (l1 : List Int), ((l0_0.length * 8 ≤ 140737488351232 ∧ ∀ x11_ ∈ l0_0, (Lit.int .i64 x11_).wf = true)) → ((l0_1.length * 8 ≤ 140737488351232 ∧ ∀ x12_ ∈ l0_1, (Lit.int .i64 x12_).wf = true)) → ((l0_2.length * 8 ≤ 140737488351232 ∧ ∀ x13_ ∈ l0_2, (Lit.int .i64 x13_).wf = true)) → ((l0_3.length * 24 ≤ 140737488351232 ∧ ∀ x14_ ∈ l0_3, (x14_.length * 8 ≤ 140737488351232 ∧ ∀ x15_ ∈ x14_, (Lit.int .i64 x15_).wf = true))) → ((l1.length * 8 ≤ 140737488351232 ∧ ∀ x16_ ∈ l1, (Lit.int .i64 x16_).wf = true)) → ∃ k, laws_FnExactRunAho.f k l0_0 l0_1 l0_2 l0_3 l1 = some true
end Go.Proofs.Ytoipfgpggcnkmaa.Pure
