/- The host's Parse and Key of every text are the reference's, and the document's examples hold. For every input. -/
import Derived.Test.YtdbokcgjdkbknaaPureParse
namespace Go.Proofs.Ytdbokcgjdkbknaa.Pure
open Go.Proofs.Ytdbokcgjdkbknaa.PHost
theorem HostParses : abutmentlaw11_HostParses.Pure := law_Parses
end Go.Proofs.Ytdbokcgjdkbknaa.Pure
