/- A ring of pages with three hands, plainly. -/
import Derived.Test.YtdpnpipninggeaaOwn
set_option linter.unusedSimpArgs false
set_option linter.unusedVariables false
namespace Go.Proofs.Ytdpnpipninggeaa
open Go
structure Ky where
 a : Int
 b : Int
 c : Int
deriving DecidableEq
structure Pg where
 key : Ky
 kind : Int
 ref : Bool
 trial : Bool
 pins : Int
deriving DecidableEq
structure Clk where
 most : Int
 target : Int
 pages : List Pg
 hot : Nat
 cold : Nat
 test : Nat
def pgC (p : Pg) : List Value := [.int .i64 p.key.a, .int .i64 p.key.b, .int .i64 p.key.c, .int .i64 p.kind, .bool p.ref, .bool p.trial, .int .i64 p.pins]
theorem pg_len (p : Pg) : (pgC p).length = 7 := rfl
theorem pgs_cells (L : List Pg) : (L.flatMap pgC).length = L.length * 7 := flat_len pg_len L
theorem pgs_one (L : List Pg) : ∀ q ∈ L.flatMap pgC, q.oneCell' = true := by
 intro q hq
 obtain ⟨p, _, hm⟩ := List.mem_flatMap.1 hq
 unfold pgC at hm
 simp only [List.mem_cons, List.not_mem_nil, or_false] at hm
 rcases hm with rfl | rfl | rfl | rfl | rfl | rfl | rfl <;> rfl
def clkC (c : Clk) (v : Value) : List Value := [.int .i64 c.most, .int .i64 c.target, v, .int .i64 (c.hot : Int), .int .i64 (c.cold : Int), .int .i64 (c.test : Int)]
/-- a clock in a variable -/
def PClk (b : Nat) (T : TypeId) (c : Clk) : HP := fun h => ∃ v, SL v c.pages.length ∧ sepl [box b (clkC c v) T, Buf 7 v (c.pages.flatMap pgC)] h
def isHot (p : Pg) : Bool := decide (p.kind = 1)
def isTest (p : Pg) : Bool := decide (p.kind = 3)
def isRes (p : Pg) : Bool := decide (p.kind = 1) || decide (p.kind = 2)
def isFree (p : Pg) : Bool := isRes p && decide (p.pins = 0)
def isCold (p : Pg) : Bool := decide (p.kind = 2) && decide (p.pins = 0)
def cnt (so : Pg → Bool) (l : List Pg) : Nat := l.countP so
/-- a hand, when a page has gone -/
def handG (n at' h : Nat) : Nat := if at' < h then (if n ≤ h - 1 then 0 else h - 1) else (if n ≤ h then 0 else h)
def goesP (c : Clk) (i : Nat) : Clk :=
 { c with pages := c.pages.take i ++ c.pages.drop (i + 1), hot := handG (c.pages.length - 1) i c.hot, cold := handG (c.pages.length - 1) i c.cold, test := handG (c.pages.length - 1) i c.test }
def handC (at' h : Nat) : Nat := if at' ≤ h then h + 1 else h
def comesP (c : Clk) (p : Pg) : Clk :=
 if c.pages.length = 0 then { c with pages := [p], hot := 0, cold := 0, test := 0 }
 else { c with pages := c.pages.take c.hot ++ [p] ++ c.pages.drop c.hot, hot := handC c.hot c.hot, cold := handC c.hot c.cold, test := handC c.hot c.test }
def onP (c : Clk) (h : Nat) : Nat := (h + 1) % c.pages.length
def aimP (c : Clk) (d : Int) : Clk := { c with target := min (max (c.target + d) 1) c.most }
def setP (c : Clk) (i : Nat) (p : Pg) : Clk := { c with pages := c.pages.set i p }
/-- the hand Hot, till a page became cold -/
def hotL : Nat → Clk → Option Clk
 | 0, _ => none
 | n + 1, c => match c.pages[c.hot]? with
  | none => none
  | some p =>
   if p.kind = 3 then hotL n (aimP (goesP c c.hot) (-1))
   else if p.kind = 1 ∧ p.ref = true then hotL n { setP c c.hot { p with ref := false } with hot := onP c c.hot }
   else if p.kind = 1 then some { setP c c.hot { p with kind := 2, ref := false, trial := false } with hot := onP c c.hot }
   else hotL n { setP c c.hot { p with trial := false } with hot := onP c c.hot }
def hotT (n : Nat) (c : Clk) : Option Clk := if cnt isHot c.pages = 0 then some c else hotL n c
def testL : Nat → Clk → Option Clk
 | 0, _ => none
 | n + 1, c => match c.pages[c.test]? with
  | none => none
  | some p =>
   if p.kind = 3 then some (aimP (goesP c c.test) (-1))
   else if p.kind = 2 ∧ p.trial = true then testL n { aimP (setP c c.test { p with trial := false }) (-1) with test := onP c c.test }
   else testL n { c with test := onP c c.test }
def testT (n : Nat) (c : Clk) : Option Clk := if cnt isTest c.pages = 0 then some c else testL n c
def coolL : Nat → Clk → Option Clk
 | 0, _ => none
 | n + 1, c => if c.most - c.target < (cnt isHot c.pages : Int) then (hotT n c).bind (coolL n) else some c
def freeL : Nat → Clk → Option Clk
 | 0, _ => none
 | n + 1, c => if cnt isCold c.pages = 0 then (hotT n c).bind (freeL n) else some c
def overL : Nat → Clk → Option Clk
 | 0, _ => none
 | n + 1, c => if c.most < (cnt isTest c.pages : Int) then (testT n c).bind (overL n) else some c
def putP (n : Nat) (c : Clk) : Option (Clk × Ky) := match c.pages[c.cold]? with
 | none => none
 | some p => (overL n (if p.trial = true then { setP c c.cold { p with kind := 3 } with cold := onP c c.cold } else goesP c c.cold)).map fun c' => (c', p.key)
def coldL : Nat → Clk → Option (Clk × Ky)
 | 0, _ => none
 | n + 1, c => (freeL n c).bind fun c => match c.pages[c.cold]? with
  | none => none
  | some p =>
   if isCold p = false then coldL n { c with cold := onP c c.cold }
   else if p.ref = true ∧ p.trial = true then (coolL n { setP c c.cold { p with kind := 1, ref := false, trial := false } with cold := onP c c.cold }).bind (coldL n)
   else if p.ref = true then coldL n { setP c c.cold { p with ref := false, trial := true } with cold := onP c c.cold }
   else putP n c
def findP (c : Clk) (k : Ky) : Nat := c.pages.findIdx fun p => decide (p.key = k)
/-- the bounds within which nothing runs over -/
structure ClkB (c : Clk) : Prop where
 m1 : 1 ≤ c.most
 m2 : c.most ≤ 1000
 t1 : -1000 ≤ c.target
 t2 : c.target ≤ 1000
 ln : c.pages.length ≤ 1000000
 h1 : c.hot ≤ 1000000
 h2 : c.cold ≤ 1000000
 h3 : c.test ≤ 1000000
theorem handG_le (n i h : Nat) : handG n i h ≤ h := by unfold handG; split <;> split <;> omega
theorem del_len' {α : Type} (l : List α) (i : Nat) (h : i < l.length) : (l.take i ++ l.drop (i + 1)).length = l.length - 1 := by simp; omega
theorem ClkB.goes {c : Clk} (h : ClkB c) (i : Nat) : ClkB (goesP c i) := by
 refine ⟨h.m1, h.m2, h.t1, h.t2, ?_, Nat.le_trans (handG_le _ _ _) h.h1, Nat.le_trans (handG_le _ _ _) h.h2, Nat.le_trans (handG_le _ _ _) h.h3⟩
 have := h.ln
 unfold goesP
 simp; omega
theorem ClkB.aim {c : Clk} (h : ClkB c) (d : Int) : ClkB (aimP c d) := by
 have := h.m1
 have := h.m2
 exact ⟨h.m1, h.m2, by unfold aimP; simp only []; omega, by unfold aimP; simp only []; omega, h.ln, h.h1, h.h2, h.h3⟩
theorem onP_le {c : Clk} (h : ClkB c) (x : Nat) (hx : x ≤ 1000000) (h0 : 0 < c.pages.length) : onP c x ≤ 1000000 := by
 have := Nat.mod_lt (x + 1) h0
 have := h.ln
 unfold onP
 omega
end Go.Proofs.Ytdpnpipninggeaa
