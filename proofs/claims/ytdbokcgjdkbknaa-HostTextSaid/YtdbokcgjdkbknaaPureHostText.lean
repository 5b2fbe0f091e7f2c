/- The host's Text of every name and port is the reference's, and the document's examples hold. For every input. -/
import Derived.Test.YtdbokcgjdkbknaaPureParse
namespace Go.Proofs.Ytdbokcgjdkbknaa.Pure
open Go.Proofs.Ytdbokcgjdkbknaa.PHost
theorem HostText : abutmentlaw11_HostText.Pure := law_Text
end Go.Proofs.Ytdbokcgjdkbknaa.Pure
