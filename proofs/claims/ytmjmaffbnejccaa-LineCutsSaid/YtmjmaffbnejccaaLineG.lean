/- LineCuts: the whole law. -/
import Derived.Test.YtmjmaffbnejccaaLineF
namespace Go.Proofs.Ytmjmaffbnejccaa
open Go.RowKit

theorem walk_lineCuts (w : World) {v : Value} (ps : List (List UInt8)) (hv : IsP w v ps) (r : Int) (hr : (Lit.int .u64 r).wf = true) : Calls Try.prog 3 #[v, .int .u64 r] w (TruePost w) := by
  obtain ⟨a, cap, rfl, hcap, hmax, ha, hsz⟩ := hv
  by_cases h : ps.length ≤ 300 ∧ ps.flatten.length ≤ 8192
  · simp [Lit.wf, IntKind.min, IntKind.max, IntKind.signed, IntKind.bits] at hr
    exact cuts_main w a cap ps r hcap ha h.1 h.2 (by omega) (by omega)
  · have hl := long_true a cap ps w ha hcap hmax hsz h
    have HL := Lib.hid hl; clear hl
    clear h hsz hmax
    go_enter Try.func3, Try.ntmps3
    go_wp2_with (first
      | (go_at_call 8; refine (HL.out).mono ?_; rintro e w' ⟨rfl, rfl⟩)
      | (go_at_call 9; refine (awake_any _).mono ?_; rintro e w1 ⟨rfl, hfr⟩))
    go_ret
    exact ⟨rfl, hfr⟩
end Go.Proofs.Ytmjmaffbnejccaa
