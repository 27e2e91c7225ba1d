/- Plain law: a Pauli operator's matrix on a state. -/
import Derived.Test.YtfoiedjjhgpcpaaGreatKPvx
import Derived.Test.YtfoiedjjhgpcpaaGreatKPvh
namespace Go.Proofs.YtfoiedjjhgpcpaaGreat
open Go.RowKit
set_option maxRecDepth 100000
set_option linter.unusedVariables false
theorem apM_ok {p : Q4} (hp : vP p = true) {v : List DQ} (hs : stB v = true) (hl : v.length = 2 ^ p.1.toNat) : apM (pmX p) v = some (apP p v) := by
  have h1 := (vP_iff.1 hp).1
  unfold apM pmX
  rw [if_pos hp]
  have hlen : (pmL p).length = 2 ^ p.1.toNat := by rw [pm_tb, tb_len]
  have hmt : mtB (pmL p) = true := by rw [pm_tb]; exact tb_mtB (qc_pw h1) (fun r c _ _ => pm_vd _ _ _)
  rw [if_pos ⟨⟨hmt, hs⟩, by rw [hlen, hl]⟩, ap_pm hp hl (st_inv hs).1]
end Go.Proofs.YtfoiedjjhgpcpaaGreat
