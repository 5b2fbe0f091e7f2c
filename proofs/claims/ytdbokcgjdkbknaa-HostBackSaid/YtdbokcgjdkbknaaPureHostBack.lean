/- A host's key is its own key, and a name and a port come back from their text in small letters. For every input. -/
import Derived.Test.YtdbokcgjdkbknaaPureParse
namespace Go.Proofs.Ytdbokcgjdkbknaa.Pure
open Go.Proofs.Ytdbokcgjdkbknaa.PHost
theorem HostBack : abutmentlaw11_HostBack.Pure := law_Back
end Go.Proofs.Ytdbokcgjdkbknaa.Pure
