/-
  Package rest: push, Push; slices.Clone of integers, walked.
-/
import Derived.Test.YtlladdkchhndiaaRW1
import Derived.WalkSpells
namespace Go.Proofs.Ytlladdkchhndiaa
open Go Go.RowKit Go.Mem Go.NetP Go.RestP

theorem Try.infoI64r : (Try.prog.info? 2).map (fun i => (i.zero, i.size, i.bytes)) = some (some (.int .i64 0), 1, 8) := by kernel_rfl

end Go.Proofs.Ytlladdkchhndiaa
