/- Layer 5: the bulk of a text. Conditions: none. -/
import Derived.Test.YtangldmjgidgcaaRows
import Derived.Test.YtangldmjgidgcaaS20
namespace Go.Proofs.Ytangldmjgidgcaa
theorem str_bulk {H : Type} {s : ByteArray} (h : Rows.uptoBulk (H := H) (.lit (.string s.data.toList)) ≤ 1048576) : s.size ≤ 1073741824 := by
  have hl : s.data.toList.length = s.size := by simp
  have : Rows.uptoBulk (H := H) (.lit (.string s.data.toList)) = s.data.toList.length + 1 := rfl
  omega
end Go.Proofs.Ytangldmjgidgcaa
