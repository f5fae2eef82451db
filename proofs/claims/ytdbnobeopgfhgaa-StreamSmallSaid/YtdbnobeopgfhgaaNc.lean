/- The chances of a place, computed: level two, bit 1. -/
import Derived.Test.YtdbnobeopgfhgaaKj
set_option maxRecDepth 100000
namespace Go.Proofs.Ytdbnobeopgfhgaa.G
open Go Go.Proofs.Ytdbnobeopgfhgaa.Vm Go.RowKit
theorem sm_2b0 : ((R2 2).all fun g2 => smC 2 1 false 32768 g2) = true := by decide +kernel
theorem sm_2b1 : ((R2 2).all fun g2 => smC 2 1 false 28672 g2) = true := by decide +kernel
theorem sm_2b2 : ((R2 2).all fun g2 => smC 2 1 false 36863 g2) = true := by decide +kernel
end Go.Proofs.Ytdbnobeopgfhgaa.G
