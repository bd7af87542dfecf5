/- The pure statement of the law FnExactGoodSession. By a program of this session. -/
import Derived.Test.YtpmdecdomfoaoaaDoorCP0
import Derived.Test.YtpmdecdomfoaoaaDoorC4
namespace Go.Proofs.YtpmdecdomfoaoaaDoor.Pure
open Go.RowKit Go.Proofs.YtpmdecdomfoaoaaDoor.P Go.Proofs.YtpmdecdomfoaoaaDoorW.PrintWords
def FnExactGoodSession_Pure : Prop := ∀ (a0_0 : Int) (a0_1 : Int) (a0_2 : Int) (a0_3 : ByteArray) (a0_4 : Int) (l0_5 : List Int) (l0_6 : List Int) (a0_7 : Int) (a0_8 : Bool), ((Lit.int .i64 a0_0).wf = true) → ((Lit.int .i64 a0_1).wf = true) → ((Lit.int .i64 a0_2).wf = true) → (a0_3.size ≤ 140737488351232) → ((Lit.int .i64 a0_4).wf = true) → ((l0_5.length * 8 ≤ 140737488351232 ∧ ∀ x9_ ∈ l0_5, (Lit.int .i64 x9_).wf = true)) → ((l0_6.length * 8 ≤ 140737488351232 ∧ ∀ x10_ ∈ l0_6, (Lit.int .i64 x10_).wf = true)) → ((Lit.int .i64 a0_7).wf = true) → ∃ k, laws_FnExactGoodSession.f k a0_0 a0_1 a0_2 a0_3 a0_4 l0_5 l0_6 a0_7 a0_8 = some true
end Go.Proofs.YtpmdecdomfoaoaaDoor.Pure
