/- The chances of a place, computed: level two, bit 0. -/
import Derived.Test.YtdbnobeopgfhgaaKj
set_option maxRecDepth 100000
namespace Go.Proofs.Ytdbnobeopgfhgaa.G
open Go Go.Proofs.Ytdbnobeopgfhgaa.Vm Go.RowKit
theorem sm_2a0 : ((R2 2).all fun g2 => smC 2 0 false 32768 g2) = true := by decide +kernel
theorem sm_2a1 : ((R2 2).all fun g2 => smC 2 0 false 28672 g2) = true := by decide +kernel
theorem sm_2a2 : ((R2 2).all fun g2 => smC 2 0 false 36863 g2) = true := by decide +kernel
end Go.Proofs.Ytdbnobeopgfhgaa.G
