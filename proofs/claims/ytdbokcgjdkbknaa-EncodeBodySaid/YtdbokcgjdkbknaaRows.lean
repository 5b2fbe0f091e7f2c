/-
  No cell of these rows narrows 'for every input' (looked for: loops, veiled, ifaces, maps, wideKeys, modest, calm, conditions, laid).
  DERIVED. THE GIVEN ROWS OF THIS SEAT. 6 by the template 'for every input the law returns true; each argument reads behind the call as it read before'; 0 by the template 'total and deterministic' (their statements: YtdbokcgjdkbknaaTotals.lean).
  GIVEN WITH THE SEED: the statements are not yours to turn. If you find one false, say at which input.
  Laid BY PROGRAM, IN A SANDBOX (cutbox-rows.mjs): the forced cells as the released guide's own fill.sh prints them over the translation c9ff4c8932085f96… (all of the seat's roots in one cut). By AI agents, Wed Nov 11 2026. No macro, syntax, notation, axiom, sorry.
-/
import Derived.Test.YtdbokcgjdkbknaaChecked
import GoSem.Claim
import GoSem.ClaimJoined
import GoSem.ClaimMapViews
import Derived.JoinedTies
import Derived.KernelRfl
namespace Go.Proofs.Ytdbokcgjdkbknaa
/- THE CELL 'sum', in the pinned program and in every row, IS THE sha256 OF THE DUMP (.gsa) THAT YtdbokcgjdkbknaaProg.lean LOADS. Nothing in Lean hashes anything: it is a label: what it is worth is what the hold of that sum in a sandbox is worth. -/
noncomputable def Try.pinned : Pinned := { name := "ytdbokcgjdkbknaa", sum := "c9ff4c8932085f96004a2099384c12d8f96bffeba48794ea92ff68950b0a4ce3", checked := Try.checked }
namespace Rows
def none {H : Type} : Left H := { results := [], args := [] }

/-- 'abutmentlaw25.EncodeBody': WHATEVER THE INPUT: true; the input reads as it did. -/
def encodeBodySpec : ChangeSpec := { name := "encodeBody", fn := fun _ => fun
  | [d1, d2, d3] => { results := [.lit (.bool true)], args := [d1, d2, d3] }
  | _ => none }
def encodeBodyRow : OpenClaim := { program := "ytdbokcgjdkbknaa", sum := "c9ff4c8932085f96004a2099384c12d8f96bffeba48794ea92ff68950b0a4ce3", func := "abutment/abutmentlaw25.EncodeBody", spec := "encodeBody", inPlace := ["internal/abi.NoEscape"], unfollowed := true, recurses := true, apart := false }
def EncodeBodySaid : Prop := encodeBodyRow.holds Try.pinned (OpenSpec.ofChange encodeBodySpec)

/-- ITS FALSE NEIGHBOUR: 'it returns false'. Refute it at one input. -/
def encodeBodyWrong : ChangeSpec := { name := "encodeBody", fn := fun _ => fun
  | [d1, d2, d3] => { results := [.lit (.bool false)], args := [d1, d2, d3] }
  | _ => none }
def EncodeBodyWrongFalsely : Prop := encodeBodyRow.holds Try.pinned (OpenSpec.ofChange encodeBodyWrong)

/-- 'abutmentlaw11.HostParses': WHATEVER THE INPUT: true; the input reads as it did. -/
def hostParsesSpec : ChangeSpec := { name := "hostParses", fn := fun _ => fun
  | [d] => { results := [.lit (.bool true)], args := [d] }
  | _ => none }
def hostParsesRow : OpenClaim := { program := "ytdbokcgjdkbknaa", sum := "c9ff4c8932085f96004a2099384c12d8f96bffeba48794ea92ff68950b0a4ce3", func := "abutment/abutmentlaw11.HostParses", spec := "hostParses", inPlace := ["internal/bytealg.IndexByteString"], apart := false }
def HostParsesSaid : Prop := hostParsesRow.holds Try.pinned (OpenSpec.ofChange hostParsesSpec)

/-- ITS FALSE NEIGHBOUR: 'it returns false'. Refute it at one input. -/
def hostParsesWrong : ChangeSpec := { name := "hostParses", fn := fun _ => fun
  | [d] => { results := [.lit (.bool false)], args := [d] }
  | _ => none }
def HostParsesWrongFalsely : Prop := hostParsesRow.holds Try.pinned (OpenSpec.ofChange hostParsesWrong)

/-- 'abutmentlaw11.HostText': WHATEVER THE INPUT: true; the input reads as it did. -/
def hostTextSpec : ChangeSpec := { name := "hostText", fn := fun _ => fun
  | [d1, d2] => { results := [.lit (.bool true)], args := [d1, d2] }
  | _ => none }
def hostTextRow : OpenClaim := { program := "ytdbokcgjdkbknaa", sum := "c9ff4c8932085f96004a2099384c12d8f96bffeba48794ea92ff68950b0a4ce3", func := "abutment/abutmentlaw11.HostText", spec := "hostText", inPlace := ["internal/bytealg.IndexByteString"], apart := false }
def HostTextSaid : Prop := hostTextRow.holds Try.pinned (OpenSpec.ofChange hostTextSpec)

/-- ITS FALSE NEIGHBOUR: 'it returns false'. Refute it at one input. -/
def hostTextWrong : ChangeSpec := { name := "hostText", fn := fun _ => fun
  | [d1, d2] => { results := [.lit (.bool false)], args := [d1, d2] }
  | _ => none }
def HostTextWrongFalsely : Prop := hostTextRow.holds Try.pinned (OpenSpec.ofChange hostTextWrong)

/-- 'abutmentlaw11.HostBack': WHATEVER THE INPUT: true; the input reads as it did. -/
def hostBackSpec : ChangeSpec := { name := "hostBack", fn := fun _ => fun
  | [d] => { results := [.lit (.bool true)], args := [d] }
  | _ => none }
def hostBackRow : OpenClaim := { program := "ytdbokcgjdkbknaa", sum := "c9ff4c8932085f96004a2099384c12d8f96bffeba48794ea92ff68950b0a4ce3", func := "abutment/abutmentlaw11.HostBack", spec := "hostBack", inPlace := ["internal/bytealg.IndexByteString"], apart := false }
def HostBackSaid : Prop := hostBackRow.holds Try.pinned (OpenSpec.ofChange hostBackSpec)

/-- ITS FALSE NEIGHBOUR: 'it returns false'. Refute it at one input. -/
def hostBackWrong : ChangeSpec := { name := "hostBack", fn := fun _ => fun
  | [d] => { results := [.lit (.bool false)], args := [d] }
  | _ => none }
def HostBackWrongFalsely : Prop := hostBackRow.holds Try.pinned (OpenSpec.ofChange hostBackWrong)

/-- 'abutmentlaw32.HostfixFixes': WHATEVER THE INPUT: true; the input reads as it did. -/
def hostfixFixesSpec : ChangeSpec := { name := "hostfixFixes", fn := fun _ => fun
  | [d1, d2, d3] => { results := [.lit (.bool true)], args := [d1, d2, d3] }
  | _ => none }
def hostfixFixesRow : OpenClaim := { program := "ytdbokcgjdkbknaa", sum := "c9ff4c8932085f96004a2099384c12d8f96bffeba48794ea92ff68950b0a4ce3", func := "abutment/abutmentlaw32.HostfixFixes", spec := "hostfixFixes", inPlace := ["internal/bytealg.IndexByteString"], unfollowed := true, recurses := true, apart := false }
def HostfixFixesSaid : Prop := hostfixFixesRow.holds Try.pinned (OpenSpec.ofChange hostfixFixesSpec)

/-- ITS FALSE NEIGHBOUR: 'it returns false'. Refute it at one input. -/
def hostfixFixesWrong : ChangeSpec := { name := "hostfixFixes", fn := fun _ => fun
  | [d1, d2, d3] => { results := [.lit (.bool false)], args := [d1, d2, d3] }
  | _ => none }
def HostfixFixesWrongFalsely : Prop := hostfixFixesRow.holds Try.pinned (OpenSpec.ofChange hostfixFixesWrong)

/-- 'abutmentlaw32.HostfixOne': WHATEVER THE INPUT: true; the input reads as it did. -/
def hostfixOneSpec : ChangeSpec := { name := "hostfixOne", fn := fun _ => fun
  | [d1, d2, d3] => { results := [.lit (.bool true)], args := [d1, d2, d3] }
  | _ => none }
def hostfixOneRow : OpenClaim := { program := "ytdbokcgjdkbknaa", sum := "c9ff4c8932085f96004a2099384c12d8f96bffeba48794ea92ff68950b0a4ce3", func := "abutment/abutmentlaw32.HostfixOne", spec := "hostfixOne", inPlace := ["internal/bytealg.IndexByteString"], unfollowed := true, recurses := true, apart := false }
def HostfixOneSaid : Prop := hostfixOneRow.holds Try.pinned (OpenSpec.ofChange hostfixOneSpec)

/-- ITS FALSE NEIGHBOUR: 'it returns false'. Refute it at one input. -/
def hostfixOneWrong : ChangeSpec := { name := "hostfixOne", fn := fun _ => fun
  | [d1, d2, d3] => { results := [.lit (.bool false)], args := [d1, d2, d3] }
  | _ => none }
def HostfixOneWrongFalsely : Prop := hostfixOneRow.holds Try.pinned (OpenSpec.ofChange hostfixOneWrong)

/- THE SECOND FORM. 'bulk': how many values and letters a reading holds, each counted each time it is reached (what is shared counts as often as it is met; a slice's spare places count too). A statement '..UptoSaid' is the law's where the arguments, and the package variables that the reading takes, are together of bulk at most 1048576: NARROWER than '..Said'. Prove '..Said' where nothing that the law and all that it calls make is longer than what came in: it says more and counts as full. Else prove '..UptoSaid'. A law counts once. -/
mutual
def uptoBulk {H : Type} : DataW H → Nat
  | .lit (.string bytes) => bytes.length + 1
  | .lit _ => 1
  | .nil => 1
  | .ptr d => uptoBulk d + 1
  | .slice elems spare => uptoBulkAll elems + uptoBulkAll spare + 1
  | .agg parts => uptoBulkAll parts + 1
  | .iface _ d => uptoBulk d + 1
  | .map entries => uptoBulkEntries entries + 1
  | .held _ => 1
def uptoBulkAll {H : Type} : List (DataW H) → Nat
  | [] => 0
  | d :: r => uptoBulk d + uptoBulkAll r
def uptoBulkEntries {H : Type} : List (Lit × DataW H) → Nat
  | [] => 0
  | x :: r => uptoBulkEntry x + uptoBulkEntries r
def uptoBulkEntry {H : Type} : Lit × DataW H → Nat
  | (.string bytes, d) => bytes.length + uptoBulk d + 1
  | (_, d) => uptoBulk d + 1
 end
def uptoSmall : (H : Type) → List (DataW H) → Bool := fun _ ds => decide (uptoBulkAll ds ≤ 1048576)
def OpenSpec.upto (s : _root_.Go.ChangeSpec) : _root_.Go.OpenSpec := { _root_.Go.OpenSpec.ofChange s with cond := some uptoSmall }

/-- 'abutmentlaw25.EncodeBody', WHERE WHAT IT READS IS OF BULK AT MOST 1048576: true; the input reads as it did. -/
def encodeBodyUptoRow : OpenClaim := { program := "ytdbokcgjdkbknaa", sum := "c9ff4c8932085f96004a2099384c12d8f96bffeba48794ea92ff68950b0a4ce3", func := "abutment/abutmentlaw25.EncodeBody", spec := "encodeBody", inPlace := ["internal/abi.NoEscape"], unfollowed := true, recurses := true, apart := false, narrowed := true }
def EncodeBodyUptoSaid : Prop := encodeBodyUptoRow.holds Try.pinned (OpenSpec.upto encodeBodySpec)

/-- 'abutmentlaw11.HostParses', WHERE WHAT IT READS IS OF BULK AT MOST 1048576: true; the input reads as it did. -/
def hostParsesUptoRow : OpenClaim := { program := "ytdbokcgjdkbknaa", sum := "c9ff4c8932085f96004a2099384c12d8f96bffeba48794ea92ff68950b0a4ce3", func := "abutment/abutmentlaw11.HostParses", spec := "hostParses", inPlace := ["internal/bytealg.IndexByteString"], apart := false, narrowed := true }
def HostParsesUptoSaid : Prop := hostParsesUptoRow.holds Try.pinned (OpenSpec.upto hostParsesSpec)

/-- 'abutmentlaw11.HostText', WHERE WHAT IT READS IS OF BULK AT MOST 1048576: true; the input reads as it did. -/
def hostTextUptoRow : OpenClaim := { program := "ytdbokcgjdkbknaa", sum := "c9ff4c8932085f96004a2099384c12d8f96bffeba48794ea92ff68950b0a4ce3", func := "abutment/abutmentlaw11.HostText", spec := "hostText", inPlace := ["internal/bytealg.IndexByteString"], apart := false, narrowed := true }
def HostTextUptoSaid : Prop := hostTextUptoRow.holds Try.pinned (OpenSpec.upto hostTextSpec)

/-- 'abutmentlaw11.HostBack', WHERE WHAT IT READS IS OF BULK AT MOST 1048576: true; the input reads as it did. -/
def hostBackUptoRow : OpenClaim := { program := "ytdbokcgjdkbknaa", sum := "c9ff4c8932085f96004a2099384c12d8f96bffeba48794ea92ff68950b0a4ce3", func := "abutment/abutmentlaw11.HostBack", spec := "hostBack", inPlace := ["internal/bytealg.IndexByteString"], apart := false, narrowed := true }
def HostBackUptoSaid : Prop := hostBackUptoRow.holds Try.pinned (OpenSpec.upto hostBackSpec)

/-- 'abutmentlaw32.HostfixFixes', WHERE WHAT IT READS IS OF BULK AT MOST 1048576: true; the input reads as it did. -/
def hostfixFixesUptoRow : OpenClaim := { program := "ytdbokcgjdkbknaa", sum := "c9ff4c8932085f96004a2099384c12d8f96bffeba48794ea92ff68950b0a4ce3", func := "abutment/abutmentlaw32.HostfixFixes", spec := "hostfixFixes", inPlace := ["internal/bytealg.IndexByteString"], unfollowed := true, recurses := true, apart := false, narrowed := true }
def HostfixFixesUptoSaid : Prop := hostfixFixesUptoRow.holds Try.pinned (OpenSpec.upto hostfixFixesSpec)

/-- 'abutmentlaw32.HostfixOne', WHERE WHAT IT READS IS OF BULK AT MOST 1048576: true; the input reads as it did. -/
def hostfixOneUptoRow : OpenClaim := { program := "ytdbokcgjdkbknaa", sum := "c9ff4c8932085f96004a2099384c12d8f96bffeba48794ea92ff68950b0a4ce3", func := "abutment/abutmentlaw32.HostfixOne", spec := "hostfixOne", inPlace := ["internal/bytealg.IndexByteString"], unfollowed := true, recurses := true, apart := false, narrowed := true }
def HostfixOneUptoSaid : Prop := hostfixOneUptoRow.holds Try.pinned (OpenSpec.upto hostfixOneSpec)

end Rows
end Go.Proofs.Ytdbokcgjdkbknaa
