/- The chances of a place, computed: level one. -/
import Derived.Test.YtdbnobeopgfhgaaKj
set_option maxRecDepth 100000
namespace Go.Proofs.Ytdbnobeopgfhgaa.G
open Go Go.Proofs.Ytdbnobeopgfhgaa.Vm Go.RowKit
theorem sm_1a : smC 1 0 false 32768 32768 = true := by decide +kernel
theorem sm_1b : smC 1 1 false 32768 32768 = true := by decide +kernel
theorem sm_1c : smC 1 0 true 32768 32768 = true := by decide +kernel
end Go.Proofs.Ytdbnobeopgfhgaa.G
