/- modl: a model of its own memory. -/
import Derived.Test.YtdpnpipninggeaaStc
import Derived.Test.YtdpnpipninggeaaNum
import Derived.Test.YtdpnpipninggeaaTab
import Derived.Test.YtdpnpipninggeaaMdlRo
import Derived.Test.YtdpnpipninggeaaClE
set_option linter.unusedSimpArgs false
set_option linter.unusedVariables false
set_option maxRecDepth 20000
set_option maxHeartbeats 4000000
namespace Go.Proofs.Ytdpnpipninggeaa
open Go
attribute [local irreducible] W WL Fn Buf ROs SL eptr box Rd Src bndOK WD RB Reads In Own twoC
theorem ser_cells (L : List (Ser × Value)) : (L.flatMap serC).length = L.length * 5 := flat_len ser_len L
theorem itr_cells (L : List (Itr × Value)) : (L.flatMap itrC).length = L.length * 2 := flat_len itr_len L
theorem sms_cells (l : List Smp) : (l.flatMap smC).length = l.length * 2 := flat_len sm_len l
theorem OMdl.shape {v : Value} {m : Mdl} {h : Hp} (o : OMdl v m h) : ∃ sv iv, v = .agg #[sv, iv, .int .i64 m.next] ∧ SL sv m.ser.length ∧ SL iv m.its.length := by
 obtain ⟨sv, iv, L, K, e, e1, e2, x1, y1, h1, ⟨x2, y2, h2, _⟩, _⟩ := o
 exact ⟨sv, iv, e, h1.sl (by rw [ser_cells, ← e1, List.length_map]) (by omega), h2.sl (by rw [itr_cells, ← e2, List.length_map]) (by omega)⟩
end Go.Proofs.Ytdpnpipninggeaa
