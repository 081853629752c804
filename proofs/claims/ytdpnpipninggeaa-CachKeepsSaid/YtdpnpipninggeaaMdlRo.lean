/- How what one hand has lies in memory: read, and owned. -/
import Derived.Test.YtdpnpipninggeaaMdlLaw
import Derived.Test.YtdpnpipninggeaaOwn
set_option linter.unusedSimpArgs false
set_option linter.unusedVariables false
namespace Go.Proofs.Ytdpnpipninggeaa
open Go
abbrev smC : Smp → List Value := twoC .i64 .u64
theorem sm_len (q : Smp) : (smC q).length = 2 := rfl
theorem sm_one (l : List Smp) : ∀ q ∈ l.flatMap smC, q.oneCell' = true := by
  intro q hq
  obtain ⟨x, _, hx⟩ := List.mem_flatMap.1 hq
  simp only [smC, twoC, List.mem_cons, List.mem_nil_iff, or_false] at hx
  rcases hx with rfl | rfl <;> rfl
def serC (p : Ser × Value) : List Value := [.int .i64 p.1.id, .bool p.1.shut, .bool p.1.any, .int .i64 p.1.last, p.2]
def itrC (p : Itr × Value) : List Value := [.int .i64 p.1.id, p.2]
def opC (o : MOp) : List Value := [.int .i64 o.kind, .int .i64 o.series, .int .i64 o.iter, .int .i64 o.t, .int .u64 o.v, .int .i64 o.lo, .int .i64 o.hi, .int .i64 o.n]
theorem ser_len (p : Ser × Value) : (serC p).length = 5 := rfl
theorem itr_len (p : Itr × Value) : (itrC p).length = 2 := rfl
def rdSer (h : Hp) (p : Ser × Value) : Prop := ROs h 2 p.2 (p.1.list.flatMap smC)
def rdItr (h : Hp) (p : Itr × Value) : Prop := ROs h 2 p.2 (p.1.rest.flatMap smC)
def owSer (p : Ser × Value) : HP := Buf 2 p.2 (p.1.list.flatMap smC)
def owItr (p : Itr × Value) : HP := Buf 2 p.2 (p.1.rest.flatMap smC)
def mdlV (sv iv : Value) (n : Int) : Value := .agg #[sv, iv, .int .i64 n]
def rstV (r : Rst) (lv : Value) : Value := .agg #[.int .i64 r.err, .int .i64 r.iter, lv]
def RMdl (h : Hp) (v : Value) (m : Mdl) : Prop :=
  ∃ sv iv L K, v = mdlV sv iv m.next ∧ L.map Prod.fst = m.ser ∧ K.map Prod.fst = m.its ∧ ROs h 5 sv (L.flatMap serC) ∧ ROs h 2 iv (K.flatMap itrC) ∧ Rds rdSer h L ∧ Rds rdItr h K
def OMdl (v : Value) (m : Mdl) : HP := fun h =>
  ∃ sv iv L K, v = mdlV sv iv m.next ∧ L.map Prod.fst = m.ser ∧ K.map Prod.fst = m.its ∧ sepl [Buf 5 sv (L.flatMap serC), Buf 2 iv (K.flatMap itrC), Own owSer L, Own owItr K] h
def RRst (h : Hp) (v : Value) (r : Rst) : Prop := ∃ lv, v = rstV r lv ∧ ROs h 2 lv (r.list.flatMap smC)
def ORst (v : Value) (r : Rst) : HP := fun h => ∃ lv, v = rstV r lv ∧ Buf 2 lv (r.list.flatMap smC) h
/-- a model in a variable -/
def PMdl (b : Nat) (T : TypeId) (m : Mdl) : HP := fun h =>
  ∃ sv iv L K, L.map Prod.fst = m.ser ∧ K.map Prod.fst = m.its ∧ sepl [box b [sv, iv, .int .i64 m.next] T, Buf 5 sv (L.flatMap serC), Buf 2 iv (K.flatMap itrC), Own owSer L, Own owItr K] h
theorem RMdl.mono {h h' : Hp} {v : Value} {m : Mdl} (r : RMdl h v m) (le : ∀ b o, h b = some o → h' b = some o) : RMdl h' v m := by
  obtain ⟨sv, iv, L, K, e, e1, e2, r1, r2, r3, r4⟩ := r
  exact ⟨sv, iv, L, K, e, e1, e2, r1.mono le, r2.mono le, fun a ha => (r3 a ha).mono le, fun a ha => (r4 a ha).mono le⟩
theorem RMdl.wide {h x : Hp} {v : Value} {m : Mdl} (r : RMdl h v m) : RMdl (join h x) v m := r.mono fun _ _ => join_left
theorem RRst.mono {h h' : Hp} {v : Value} {r : Rst} (q : RRst h v r) (le : ∀ b o, h b = some o → h' b = some o) : RRst h' v r := by
  obtain ⟨lv, e, q⟩ := q
  exact ⟨lv, e, q.mono le⟩
theorem RRst.wide {h x : Hp} {v : Value} {r : Rst} (q : RRst h v r) : RRst (join h x) v r := q.mono fun _ _ => join_left
theorem owSer_rd {L : List (Ser × Value)} {h : Hp} (o : Own owSer L h) : Rds rdSer h L := own_rd (g := rdSer) (fun a y hy => Buf.ro hy) (fun a y z g le => ROs.mono g le) o
theorem owItr_rd {L : List (Itr × Value)} {h : Hp} (o : Own owItr L h) : Rds rdItr h L := own_rd (g := rdItr) (fun a y hy => Buf.ro hy) (fun a y z g le => ROs.mono g le) o
theorem OMdl.ro {v : Value} {m : Mdl} {h : Hp} (o : OMdl v m h) : RMdl h v m := by
  obtain ⟨sv, iv, L, K, e, e1, e2, x1, y1, h1, ⟨x2, y2, h2, ⟨x3, y3, h3, ⟨x4, y4, h4, h5, d4, rfl⟩, d3, rfl⟩, d2, rfl⟩, d1, rfl⟩ := o
  have l4 : ∀ b o, x4 b = some o → join x1 (join x2 (join x3 (join x4 y4))) b = some o := fun b o hb => join_right d1 (join_right d2 (join_right d3 (join_left hb)))
  have l3 : ∀ b o, x3 b = some o → join x1 (join x2 (join x3 (join x4 y4))) b = some o := fun b o hb => join_right d1 (join_right d2 (join_left hb))
  have l2 : ∀ b o, x2 b = some o → join x1 (join x2 (join x3 (join x4 y4))) b = some o := fun b o hb => join_right d1 (join_left hb)
  exact ⟨sv, iv, L, K, e, e1, e2, (Buf.ro h1).mono fun _ _ => join_left, (Buf.ro h2).mono l2, fun a ha => ROs.mono (owSer_rd h3 a ha) l3, fun a ha => ROs.mono (owItr_rd h4 a ha) l4⟩
theorem ORst.ro {v : Value} {r : Rst} {h : Hp} (o : ORst v r h) : RRst h v r := by
  obtain ⟨lv, e, q⟩ := o
  exact ⟨lv, e, Buf.ro q⟩
def doSA (m : Mdl) (o : MOp) : Mdl × Rst := if o.kind = 1 then doA m o else doS m o
theorem ORst.shape {v : Value} {r : Rst} {h : Hp} (o : ORst v r h) : ∃ lv, v = .agg #[.int .i64 r.err, .int .i64 r.iter, lv] ∧ SL lv r.list.length := by
  obtain ⟨lv, e, q⟩ := o
  exact ⟨lv, e, q.sl (flat_len sm_len _) (by omega)⟩
end Go.Proofs.Ytdpnpipninggeaa
