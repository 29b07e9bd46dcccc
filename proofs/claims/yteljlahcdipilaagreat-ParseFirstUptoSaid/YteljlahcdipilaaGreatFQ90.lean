/- Layer 12: the law ParseFirst. Conditions: the texts are no longer than 2^30; the variable of internal/bytealg is an int. -/
import Derived.Test.YteljlahcdipilaaGreatFQ82
import Derived.Test.YteljlahcdipilaaGreatFQ83
namespace Go.Proofs.YteljlahcdipilaaGreat
open Go.RowKit Go.Shelf

theorem pfirst_any (s m : ByteArray) (w : World) (hs : s.size ≤ 1073741824) (hm : m.size ≤ 1073741824) (hM : ML w) :
  Calls Tryz.prog 4 #[.string s, .string m] w fun e w' => e = .returned (.bool true) ∧ Below w.heap.size w w' :=
 pfirst_of s m w hs hm (fun s' w0 hb h => parse_is s' w0 h (hM.below hb)) (fun s' h => scan_all s' w h hM) (fun w0 hb => pworks_is w0 (hM.below hb))
end Go.Proofs.YteljlahcdipilaaGreat
