/- The pure statement of the law FnExactDecodeAll. By a program of this session. -/
import Derived.Test.YtpmdecdomfoaoaaDoorCP0
import Derived.Test.YtpmdecdomfoaoaaDoorC6
namespace Go.Proofs.YtpmdecdomfoaoaaDoor.Pure
open Go.RowKit Go.Proofs.YtpmdecdomfoaoaaDoor.P Go.Proofs.YtpmdecdomfoaoaaDoorW.PrintWords
def FnExactDecodeAll_Pure : Prop := ∀ (a0 : Int) (a1 : ByteArray), ((Lit.int .i64 a0).wf = true) → (a1.size ≤ 140737488351232) → ∃ k, laws_FnExactDecodeAll.f k a0 a1 = some true
end Go.Proofs.YtpmdecdomfoaoaaDoor.Pure
