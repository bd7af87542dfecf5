/- The pure statement of the law FnExactFeedDecoder. By a program of this session. -/
import Derived.Test.YtpmdecdomfoaoaaDoorCP0
import Derived.Test.YtpmdecdomfoaoaaDoorC5
namespace Go.Proofs.YtpmdecdomfoaoaaDoor.Pure
open Go.RowKit Go.Proofs.YtpmdecdomfoaoaaDoor.P Go.Proofs.YtpmdecdomfoaoaaDoorW.PrintWords
def FnExactFeedDecoder_Pure : Prop := ∀ (a0_0 : Int) (a0_1 : Int) (a0_2 : Int) (a0_3 : ByteArray) (a1 : ByteArray), ((Lit.int .i64 a0_0).wf = true) → ((Lit.int .i64 a0_1).wf = true) → ((Lit.int .i64 a0_2).wf = true) → (a0_3.size ≤ 140737488351232) → (a1.size ≤ 140737488351232) → ∃ k, laws_FnExactFeedDecoder.f k a0_0 a0_1 a0_2 a0_3 a1 = some true
end Go.Proofs.YtpmdecdomfoaoaaDoor.Pure
