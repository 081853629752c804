/- One step of a walk: the rule is picked by the operation that comes next. For the workbench alone: a text that is handed in has the steps written out (freeze.py). -/
import Derived.Test.YtdpnpipninggeaaDoorStc
import Derived.Test.YtdpnpipninggeaaDoorNum
import Derived.Test.YtdpnpipninggeaaDoorTab
import Lean
set_option linter.unusedSimpArgs false
set_option linter.unusedVariables false
namespace Go.Proofs.YtdpnpipninggeaaDoor
open Go Lean Elab Tactic Meta

/-- 'e = ?c' of naturals: told as a number where 'e' is one -/
elab "vnat" : tactic => withMainContext do
  let g ← getMainGoal
  let t ← instantiateMVars (← g.getType)
  let some (_, lhs, rhs) := t.eq? | throwError "vnat"
  let e ← withTransparency .default (whnf lhs)
  match (match e.rawNatLit? with | some n => some n | none => e.nat?) with
  | some n => if ← isDefEq rhs (toExpr n) then evalTactic (← `(tactic| rfl)) else throwError "vnat"
  | none => evalTactic (← `(tactic| rfl))

def litName (e : Lean.Expr) : String := match e.getAppFn.constName? with
  | some (Lean.Name.str _ s) => s
  | _ => ""
/-- what comes next -/
def nextOf (t : Lean.Expr) : String :=
  match t.getAppFn.constName? with
  | some (Lean.Name.str _ "WL") =>
    let l := t.getArg! 6
    if l.isAppOf ``List.nil then "nil"
    else if l.isAppOf ``List.cons then
      let o := l.getArg! 1
      if o.isAppOfArity ``Oper.mk 6 then
        if !(o.getArg! 5).isAppOf ``Option.none then "guard"
        else
          let op := o.getArg! 1
          match op.getAppFn.constName? with
          | some (Lean.Name.str _ "binOp") => "b." ++ litName (op.getArg! 0)
          | some (Lean.Name.str _ "unOp") => "u." ++ litName (op.getArg! 0)
          | some (Lean.Name.str _ "call") =>
            let c := op.getArg! 0
            let ce := c.getArg! 0
            if ce.getAppFn.constName?.map (·.getString!) == some "builtin" then "c." ++ litName (ce.getArg! 0) else "call"
          | some (Lean.Name.str _ s) => s
          | _ => "?"
      else "guardP"
    else "?"
  | some (Lean.Name.str _ "W") =>
    let k := t.getArg! 4
    if k.isAppOf ``List.cons then
      let i := k.getArg! 1
      match i.getAppFn.constName? with
      | some (Lean.Name.str _ "code") => "w." ++ litName (i.getArg! 0)
      | some (Lean.Name.str _ s) => "i." ++ s
      | _ => "w?"
    else "w?"
  | _ => ""

/-- whether an operation only yields a value -/
def pureKey (k : String) : Bool := k.startsWith "b." || k.startsWith "u." || ["move", "assign", "pick", "extract", "convert", "nilCheck", "fieldAddr", "indexAddr", "load", "build", "c.len", "c.min", "c.max", "c.cap", "field", "slice", "lookup"].contains k
def natOf (e : Lean.Expr) : Option Nat := match e.rawNatLit? with | some n => some n | none => e.nat?
partial def listedOf (e : Lean.Expr) : List Nat :=
  if e.isAppOf ``Array.setIfInBounds then
    (match natOf (e.getAppArgs[2]!) with | some n => [n] | none => []) ++ listedOf (e.getAppArgs[1]!)
  else []
partial def litList (e : Lean.Expr) : List Lean.Expr :=
  if e.isAppOf ``List.append then litList (e.getArg! 1) ++ litList (e.getArg! 2)
  else match e.listLit? with | some (_, l) => l | none => []
def opsOf (e : Lean.Expr) : List Lean.Expr :=
  let e := if e.isAppOf ``List.toArray then e.appArg! else e
  litList e
def opKey (o : Lean.Expr) : String :=
  let op := o.getArg! 1
  match op.getAppFn.constName? with
  | some (Lean.Name.str _ "binOp") => "b." ++ litName (op.getArg! 0)
  | some (Lean.Name.str _ "unOp") => "u." ++ litName (op.getArg! 0)
  | some (Lean.Name.str _ "call") =>
    let ce := (op.getArg! 0).getArg! 0
    if ce.getAppFn.constName?.map (·.getString!) == some "builtin" then "c." ++ litName (ce.getArg! 0) else "call"
  | some (Lean.Name.str _ "convert") => if op.getArg! 0 == op.getArg! 1 then "convertB" else "convert"
  | some (Lean.Name.str _ s) => s
  | _ => "?"
/-- on which operations one waits, by its edges -/
def edgesOf (o : Lean.Expr) : List Nat :=
  let a := o.getArg! 4
  let a := if a.isAppOf ``List.toArray then a.appArg! else a
  (litList a).filterMap fun e => if ["gcOnly", "textOnly"].contains (litName (e.getArg! 1)) then none else natOf (e.getArg! 0)
/-- tells shortly what comes next, and the state -/
elab "vsee" : tactic => withMainContext do
  let t ← instantiateMVars (← (← getMainGoal).getType)
  let t := t.consumeMData
  let cut (m : Nat) (e : Lean.Expr) : TacticM String := do return ((toString (← ppExpr e)).take m).toString
  if t.getAppFn.constName?.map (·.getString!) == some "WL" then
    let l := t.getArg! 6
    let o := if l.isAppOf ``List.cons then l.getArg! 1 else l
    logInfo m!"AT {nextOf t}: {← cut 300 o}\nENV {← cut 1500 (t.getArg! 7)}\nHS {← cut 1500 (t.getArg! 8)}"
  else if t.getAppFn.constName?.map (·.getString!) == some "W" then
    let k := t.getArg! 4
    let o := if k.isAppOf ``List.cons then k.getArg! 1 else k
    logInfo m!"AT {nextOf t}: {← cut 300 o}\nENV {← cut 1500 (t.getArg! 5)}\nHS {← cut 1500 (t.getArg! 6)}"
  else if t.getAppFn.constName?.map (·.getString!) == some "WD" then
    let ls := listedOf (t.getArg! 8)
    let rest := (opsOf (t.getArg! 5)).zipIdx.filter fun (o, i) => !ls.contains i && (edgesOf o).all (fun j => ls.contains j || j == i)
    let rs ← rest.mapM fun (o, i) => do return s!"{i}: {← cut 200 o}"
    logInfo m!"AT WD ready:\n{"\n".intercalate rs}\nENV {← cut 1500 (t.getArg! 9)}\nHS {← cut 1500 (t.getArg! 10)}"
  else logInfo m!"AT {← cut 1500 t}"

def cands : String → List String
  | "nil" => ["WL.nil ?_", "WL.nilT ?_", "WL.nilE ?_"]
  | "guard" => ["WL.gY rfl rfl ?_", "WL.gdN rfl rfl rfl rfl rfl rfl ?_", "WL.gdU rfl rfl rfl rfl rfl ?_", "WL.gdU0 rfl rfl rfl rfl ?_", "WL.gT rfl rfl (by omega) ?_", "WL.gdTn rfl rfl rfl rfl rfl (by omega) ?_", "WL.gF rfl rfl (by omega) ?_", "WL.gdFn rfl rfl rfl rfl rfl (by omega) ?_", "WL.gT rfl rfl (by decide +kernel) ?_", "WL.gF rfl rfl (by decide +kernel) ?_", "WL.gdTn rfl rfl rfl rfl rfl (by decide +kernel) ?_", "WL.gdFn rfl rfl rfl rfl rfl (by decide +kernel) ?_", "WL.gT rfl rfl (by assumption) ?_", "WL.gF rfl rfl (by assumption) ?_"]
  | "guardP" => ["WL.gY rfl rfl ?_", "WL.gdN rfl rfl rfl rfl rfl rfl ?_", "WL.gdU rfl rfl rfl rfl rfl ?_", "WL.gdU0 rfl rfl rfl rfl ?_", "WL.gT rfl rfl (by omega) ?_", "WL.gdTn rfl rfl rfl rfl rfl (by omega) ?_", "WL.gF rfl rfl (by omega) ?_", "WL.gdFn rfl rfl rfl rfl rfl (by omega) ?_", "WL.gT rfl rfl (by decide +kernel) ?_", "WL.gF rfl rfl (by decide +kernel) ?_", "WL.gdTn rfl rfl rfl rfl rfl (by decide +kernel) ?_", "WL.gdFn rfl rfl rfl rfl rfl (by decide +kernel) ?_", "WL.gT rfl rfl (by assumption) ?_", "WL.gF rfl rfl (by assumption) ?_"]
  | "move" => ["WL.mv rfl rfl ?_"]
  | "assign" => ["WL.as rfl rfl ?_"]
  | "b.add" => ["WL.addK rfl rfl rfl (wrap_i64 ⟨by omega, by omega⟩) ?_", "WL.addK rfl rfl rfl (wrap_u64 ⟨by omega, by omega⟩) ?_", "WL.addK rfl rfl rfl (wrap_u32 ⟨by omega, by omega⟩) ?_", "WL.addK rfl rfl rfl (wrap_u8 ⟨by omega, by omega⟩) ?_", "WL.add (K := .u64) rfl rfl rfl ?_", "WL.add (K := .u32) rfl rfl rfl ?_", "WL.add (K := .u8) rfl rfl rfl ?_", "WL.add (K := .i64) rfl rfl rfl ?_"]
  | "b.sub" => ["WL.subK rfl rfl rfl (wrap_i64 ⟨by omega, by omega⟩) ?_", "WL.subK rfl rfl rfl (wrap_u64 ⟨by omega, by omega⟩) ?_", "WL.subK rfl rfl rfl (wrap_u32 ⟨by omega, by omega⟩) ?_", "WL.subK rfl rfl rfl (wrap_u8 ⟨by omega, by omega⟩) ?_", "WL.sub' (K := .u64) rfl rfl rfl ?_", "WL.sub' (K := .u32) rfl rfl rfl ?_", "WL.sub' (K := .u8) rfl rfl rfl ?_", "WL.sub' (K := .i64) rfl rfl rfl ?_"]
  | "b.mul" => ["WL.mulK rfl rfl rfl (wrap_i64 ⟨by omega, by omega⟩) ?_", "WL.mulK rfl rfl rfl (wrap_u64 ⟨by omega, by omega⟩) ?_", "WL.mulK rfl rfl rfl (wrap_u32 ⟨by omega, by omega⟩) ?_", "WL.mulK rfl rfl rfl (wrap_u8 ⟨by omega, by omega⟩) ?_", "WL.mul (K := .u64) rfl rfl rfl ?_", "WL.mul (K := .u32) rfl rfl rfl ?_", "WL.mul (K := .u8) rfl rfl rfl ?_", "WL.mul (K := .i64) rfl rfl rfl ?_"]
  | "b.quo" => ["WL.quoI rfl rfl rfl (by omega) (by omega) (by omega) ?_"]
  | "b.rem" => ["WL.remI rfl rfl rfl (by omega) (by omega) ?_"]
  | "b.and" => ["WL.andI rfl rfl rfl (by decide) ?_", "WL.andU rfl rfl rfl rfl (by decide) (by omega) (by simp only [IntKind.bits]; omega) ?_", "WL.and rfl rfl rfl ?_"]
  | "b.or" => ["WL.or rfl rfl rfl ?_"]
  | "b.xor" => ["WL.xor rfl rfl rfl ?_"]
  | "b.lss" => ["WL.lss rfl rfl rfl ?_"]
  | "b.leq" => ["WL.leq rfl rfl rfl ?_"]
  | "b.gtr" => ["WL.gtr rfl rfl rfl ?_"]
  | "b.geq" => ["WL.geq rfl rfl rfl ?_"]
  | "b.eql" => ["WL.eql rfl rfl rfl ?_", "WL.eqN (T := Ty) rfl rfl (by assumption) rfl ?_", "WL.eqST rfl rfl rfl (by first | with_reducible rfl | assumption) ?_", "WL.eqS rfl rfl rfl ?_", "WL.eqB (T := Ty) rfl rfl rfl rfl ?_", "WL.eqP (T := Ty) rfl rfl rfl ?_", "WL.eqFe (T := Ty) rfl rfl rfl rfl (by repeat' first | exact FE.nil | apply FE.int (by decide) rfl rfl rfl rfl | apply FE.bool (by decide) rfl rfl rfl rfl | apply FE.sub (by decide) rfl (by kernel_rfl) rfl rfl) (by kernel_rfl) (by kernel_rfl) (by assumption) ?_", "WL.eqF (T := Ty) rfl rfl rfl rfl (by repeat' first | exact FE.nil | apply FE.int (by decide) rfl rfl rfl rfl | apply FE.bool (by decide) rfl rfl rfl rfl | apply FE.sub (by decide) rfl (by kernel_rfl) rfl rfl) (by kernel_rfl) (by kernel_rfl) ?_"]
  | "b.neq" => ["WL.neq rfl rfl rfl ?_", "WL.neN (T := Ty) rfl rfl (by assumption) rfl ?_", "WL.neST rfl rfl rfl (by first | with_reducible rfl | assumption) ?_", "WL.neS rfl rfl rfl ?_", "WL.neB (T := Ty) rfl rfl rfl rfl ?_", "WL.neP (T := Ty) rfl rfl rfl ?_", "WL.neAS (T := Ty) rfl rfl rfl rfl (by repeat' first | exact FI.nil | refine FI.cons (by decide) rfl rfl rfl ?_) (by kernel_rfl) (by kernel_rfl) ?_", "WL.neFe (T := Ty) rfl rfl rfl rfl (by repeat' first | exact FE.nil | apply FE.int (by decide) rfl rfl rfl rfl | apply FE.bool (by decide) rfl rfl rfl rfl | apply FE.sub (by decide) rfl (by kernel_rfl) rfl rfl) (by kernel_rfl) (by kernel_rfl) (by assumption) ?_", "WL.neF (T := Ty) rfl rfl rfl rfl (by repeat' first | exact FE.nil | apply FE.int (by decide) rfl rfl rfl rfl | apply FE.bool (by decide) rfl rfl rfl rfl | apply FE.sub (by decide) rfl (by kernel_rfl) rfl rfl) (by kernel_rfl) (by kernel_rfl) ?_"]
  | "u.not" => ["WL.notp rfl rfl ?_", "WL.not rfl rfl ?_"]
  | "u.neg" => ["WL.negK rfl rfl (wrap_i64 ⟨by omega, by omega⟩) ?_", "WL.negK rfl rfl (wrap_u64 ⟨by omega, by omega⟩) ?_", "WL.negK rfl rfl (wrap_u32 ⟨by omega, by omega⟩) ?_", "WL.negK rfl rfl (wrap_u8 ⟨by omega, by omega⟩) ?_", "WL.neg rfl rfl ?_"]
  | "pick" => ["WL.pickT rfl rfl rfl ?_", "WL.pickF rfl rfl rfl ?_", "WL.pickTp rfl rfl (by omega) rfl ?_", "WL.pickFp rfl rfl (by omega) rfl ?_", "WL.pickTp rfl rfl (by decide +kernel) rfl ?_", "WL.pickFp rfl rfl (by decide +kernel) rfl ?_"]
  | "extract" => ["WL.extL rfl rfl rfl ?_"]
  | "convert" => ["WL.cvK (T := Ty) rfl rfl rfl rfl (wrap_i64 ⟨by omega, by omega⟩) ?_", "WL.cvK (T := Ty) rfl rfl rfl rfl (wrap_u64 ⟨by omega, by omega⟩) ?_", "WL.cvK (T := Ty) rfl rfl rfl rfl (wrap_u32 ⟨by omega, by omega⟩) ?_", "WL.cvK (T := Ty) rfl rfl rfl rfl (wrap_u8 ⟨by omega, by omega⟩) ?_", "WL.cv (T := Ty) rfl rfl rfl rfl ?_", "WL.b2sRN (T := Ty) rfl rfl rfl rfl rfl rfl rfl (by assumption) ?_", "WL.b2sN (T := Ty) rfl rfl rfl rfl rfl rfl rfl (.own 0 rfl) ?_", "WL.b2sN (T := Ty) rfl rfl rfl rfl rfl rfl rfl (.own 1 rfl) ?_", "WL.b2sN (T := Ty) rfl rfl rfl rfl rfl rfl rfl (.own 2 rfl) ?_", "WL.b2sN (T := Ty) rfl rfl rfl rfl rfl rfl rfl (.own 3 rfl) ?_", "WL.s2bN (T := Ty) rfl rfl rfl rfl rfl rfl (by first | assumption | omega | decide +kernel) (fun u$N hu$N => ?_)", "WL.cvB (T := Ty) (j := 0) rfl rfl rfl rfl rfl rfl (by simp) ?_", "WL.cvB (T := Ty) (j := 1) rfl rfl rfl rfl rfl rfl (by simp) ?_", "WL.cvB (T := Ty) (j := 2) rfl rfl rfl rfl rfl rfl (by simp) ?_", "WL.cvB (T := Ty) (j := 3) rfl rfl rfl rfl rfl rfl (by simp) ?_"]
  | "slice" => ["WL.slSh (T := Ty) rfl rfl rfl rfl rfl (by omega) (by omega) ?_", "WL.slSl (T := Ty) rfl rfl rfl rfl rfl (by omega) (by omega) ?_", "WL.slDn (T := Ty) rfl rfl rfl rfl rfl (by first | assumption | exact ROs.wide (by assumption)) (by first | assumption | omega | (simp; omega)) (fun u$N hu$N ru$N => ?_)", "WL.slTn (T := Ty) rfl rfl rfl rfl rfl (by first | assumption | exact ROs.wide (by assumption)) (by first | assumption | omega | (simp; omega)) (fun u$N hu$N ru$N => ?_)", "WL.slX0 (T := Ty) rfl rfl .no (by first | exact .inl ⟨rfl, rfl, rfl⟩ | exact .inr ⟨_, _, rfl, rfl⟩) (by first | exact .no | exact .atN rfl) rfl rfl (by omega) (by omega) ?_", "WL.slXp (T := Ty) rfl rfl (.atN rfl) (by first | exact .inl ⟨rfl, rfl, rfl⟩ | exact .inr ⟨_, _, rfl, rfl⟩) (by first | exact .no | exact .atN rfl) rfl rfl (by omega) (by omega) (by omega) (by omega) ?_", "WL.slXe (T := Ty) rfl rfl (.atN rfl) (by first | exact .inl ⟨rfl, rfl, rfl⟩ | exact .inr ⟨_, _, rfl, rfl⟩) (by first | exact .no | exact .atN rfl) rfl rfl (by omega) (by omega) (by omega) (by omega) ?_", "WL.slDf (T := Ty) rfl rfl rfl rfl rfl rfl (by first | assumption | exact ROs.wide (by assumption)) (by intro a; rfl) (by first | assumption | omega | (simp; omega)) (fun u$N hu$N ru$N => ?_)", "WL.slTf (T := Ty) rfl rfl rfl rfl rfl rfl (by first | assumption | exact ROs.wide (by assumption)) (by intro a; rfl) (by first | assumption | omega | (simp; omega)) (fun u$N hu$N ru$N => ?_)"]
  | "nilCheck" => ["WL.nc rfl rfl ?_", "WL.ncE rfl rfl ?_"]
  | "indexAddr" => ["WL.ix (T := Ty) rfl rfl rfl (by assumption) rfl rfl (by omega) (by omega) ?_", "WL.ixA (T := Ty) rfl rfl rfl rfl rfl (by omega) (by omega) ?_"]
  | "buildSlice" => ["WL.bsXh (by with_reducible assumption) (T := Ty) rfl rfl rfl rfl rfl rfl rfl rfl (by repeat' constructor) (fun b$N => ?_)", "WL.bsC (T := Ty) rfl rfl rfl rfl rfl rfl rfl (by repeat' first | exact CO.nil | apply CO.one (by first | rfl | exact SL.one (by assumption)) | apply CO.agg) rfl (by repeat' constructor) (fun u$N hu$N => ?_)", "WL.bs (T := Ty) rfl rfl rfl rfl rfl rfl rfl rfl (by repeat' constructor) (fun u$N hu$N => ?_)"]
  | "build" => ["WL.bdC (T := Ty) rfl rfl rfl rfl (by repeat' first | exact CO.nil | apply CO.one (by first | rfl | exact SL.one (by assumption)) | apply CO.agg) rfl (by repeat' constructor) ?_", "WL.bd (T := Ty) rfl rfl rfl rfl rfl (by repeat' constructor) ?_", "WL.bdAC (T := Ty) rfl rfl rfl rfl (by repeat' first | exact CO.nil | apply CO.one (by first | rfl | exact SL.one (by assumption)) | apply CO.agg) rfl (by repeat' constructor) ?_"]
  | "box" => ["WL.bxF rfl rfl (by repeat' constructor) (fun b$N => ?_)"]
  | "alloc" => ["WL.alF (T := Ty) rfl rfl (by repeat' constructor) (fun b$N => ?_)"]
  | "load" => ["WL.ldBN (T := Ty) rfl rfl rfl rfl (by first | assumption | exact RB.wide (by assumption) | exact In.rb (by assumption)) rfl ?_", "WL.ldKn (T := Ty) rfl rfl rfl rfl (by first | assumption | exact ROs.wide (by assumption)) (by assumption) ?_", "WL.ldR (T := Ty) rfl rfl rfl rfl (by first | assumption | exact ROs.wide (by assumption)) (by assumption) ?_", "WL.ldK (T := Ty) rfl rfl rfl rfl (by first | assumption | exact ROs.wide (by assumption)) (by assumption) (by omega) ?_", "WL.ldBN (T := Ty) rfl rfl rfl rfl (by assumption) rfl ?_", "WL.ldN (T := Ty) (j := 0) rfl rfl rfl rfl rfl rfl ?_", "WL.ldN (T := Ty) (j := 1) rfl rfl rfl rfl rfl rfl ?_", "WL.ldN (T := Ty) (j := 2) rfl rfl rfl rfl rfl rfl ?_", "WL.ldN (T := Ty) (j := 3) rfl rfl rfl rfl rfl rfl ?_", "WL.ldN (T := Ty) (j := 4) rfl rfl rfl rfl rfl rfl ?_", "WL.ldN (T := Ty) (j := 5) rfl rfl rfl rfl rfl rfl ?_", "WL.ldN (T := Ty) (j := 6) rfl rfl rfl rfl rfl rfl ?_", "WL.ldN (T := Ty) (j := 7) rfl rfl rfl rfl rfl rfl ?_", "WL.ldE (T := Ty) (j := 0) rfl rfl rfl rfl rfl (by assumption) ?_", "WL.ldE (T := Ty) (j := 1) rfl rfl rfl rfl rfl (by assumption) ?_", "WL.ldE (T := Ty) (j := 2) rfl rfl rfl rfl rfl (by assumption) ?_", "WL.ldE (T := Ty) (j := 3) rfl rfl rfl rfl rfl (by assumption) ?_", "WL.ldE (T := Ty) (j := 4) rfl rfl rfl rfl rfl (by assumption) ?_", "WL.ldE (T := Ty) (j := 5) rfl rfl rfl rfl rfl (by assumption) ?_", "WL.ldE (T := Ty) (j := 6) rfl rfl rfl rfl rfl (by assumption) ?_", "WL.ldE (T := Ty) (j := 7) rfl rfl rfl rfl rfl (by assumption) ?_", "WL.ldEK (T := Ty) (j := 0) rfl rfl rfl rfl rfl (by assumption) (by omega) ?_", "WL.ldEK (T := Ty) (j := 1) rfl rfl rfl rfl rfl (by assumption) (by omega) ?_", "WL.ldEK (T := Ty) (j := 2) rfl rfl rfl rfl rfl (by assumption) (by omega) ?_", "WL.ldEK (T := Ty) (j := 3) rfl rfl rfl rfl rfl (by assumption) (by omega) ?_", "WL.ldEK (T := Ty) (j := 4) rfl rfl rfl rfl rfl (by assumption) (by omega) ?_", "WL.ldEK (T := Ty) (j := 5) rfl rfl rfl rfl rfl (by assumption) (by omega) ?_", "WL.ldEK (T := Ty) (j := 6) rfl rfl rfl rfl rfl (by assumption) (by omega) ?_", "WL.ldEK (T := Ty) (j := 7) rfl rfl rfl rfl rfl (by assumption) (by omega) ?_", "WL.ldRn (T := Ty) rfl rfl rfl rfl (by first | assumption | exact ROs.wide (by assumption)) (by first | omega | decide +kernel) ?_", "WL.ldRz (T := Ty) rfl rfl rfl rfl (by first | assumption | exact ROs.wide (by assumption)) (by first | omega | decide +kernel) ?_", "WL.ldEn (T := Ty) (j := 0) rfl rfl rfl rfl rfl (by first | omega | decide +kernel) ?_", "WL.ldEz (T := Ty) (j := 0) rfl rfl rfl rfl rfl (by first | omega | decide +kernel) ?_", "WL.ldEn (T := Ty) (j := 1) rfl rfl rfl rfl rfl (by first | omega | decide +kernel) ?_", "WL.ldEz (T := Ty) (j := 1) rfl rfl rfl rfl rfl (by first | omega | decide +kernel) ?_", "WL.ldEn (T := Ty) (j := 2) rfl rfl rfl rfl rfl (by first | omega | decide +kernel) ?_", "WL.ldEz (T := Ty) (j := 2) rfl rfl rfl rfl rfl (by first | omega | decide +kernel) ?_", "WL.ldEn (T := Ty) (j := 3) rfl rfl rfl rfl rfl (by first | omega | decide +kernel) ?_", "WL.ldEz (T := Ty) (j := 3) rfl rfl rfl rfl rfl (by first | omega | decide +kernel) ?_", "WL.ldEn (T := Ty) (j := 4) rfl rfl rfl rfl rfl (by first | omega | decide +kernel) ?_", "WL.ldEz (T := Ty) (j := 4) rfl rfl rfl rfl rfl (by first | omega | decide +kernel) ?_", "WL.ldEn (T := Ty) (j := 5) rfl rfl rfl rfl rfl (by first | omega | decide +kernel) ?_", "WL.ldEz (T := Ty) (j := 5) rfl rfl rfl rfl rfl (by first | omega | decide +kernel) ?_", "WL.ldEn (T := Ty) (j := 6) rfl rfl rfl rfl rfl (by first | omega | decide +kernel) ?_", "WL.ldEz (T := Ty) (j := 6) rfl rfl rfl rfl rfl (by first | omega | decide +kernel) ?_", "WL.ldEn (T := Ty) (j := 7) rfl rfl rfl rfl rfl (by first | omega | decide +kernel) ?_", "WL.ldEz (T := Ty) (j := 7) rfl rfl rfl rfl rfl (by first | omega | decide +kernel) ?_", "WL.ldRM (T := Ty) rfl rfl rfl rfl (by first | assumption | exact ROs.wide (by assumption)) (by first | omega | decide +kernel) ?_", "WL.ldEM (T := Ty) (j := 0) rfl rfl rfl rfl rfl (by first | omega | decide +kernel) ?_", "WL.ldEM (T := Ty) (j := 1) rfl rfl rfl rfl rfl (by first | omega | decide +kernel) ?_", "WL.ldEM (T := Ty) (j := 2) rfl rfl rfl rfl rfl (by first | omega | decide +kernel) ?_", "WL.ldEM (T := Ty) (j := 3) rfl rfl rfl rfl rfl (by first | omega | decide +kernel) ?_", "WL.ldEM (T := Ty) (j := 4) rfl rfl rfl rfl rfl (by first | omega | decide +kernel) ?_", "WL.ldEM (T := Ty) (j := 5) rfl rfl rfl rfl rfl (by first | omega | decide +kernel) ?_", "WL.ldEM (T := Ty) (j := 6) rfl rfl rfl rfl rfl (by first | omega | decide +kernel) ?_", "WL.ldEM (T := Ty) (j := 7) rfl rfl rfl rfl rfl (by first | omega | decide +kernel) ?_", "WL.ldAny (K := .i64) (T := Ty) rfl rfl rfl rfl (by first | assumption | exact ROs.wide (by assumption)) (by repeat' first | exact AI.nil | apply AI.cons) (by simp; omega) (fun m$N hm$N => ?_)", "WL.ldABF (T := Ty) rfl rfl rfl rfl (by first | assumption | exact RB.wide (by assumption) | exact In.rb (by assumption)) rfl (by repeat' constructor) ?_", "WL.ldAF (T := Ty) (j := 0) rfl rfl rfl rfl rfl rfl (by repeat' constructor) ?_", "WL.ldAF (T := Ty) (j := 1) rfl rfl rfl rfl rfl rfl (by repeat' constructor) ?_", "WL.ldAF (T := Ty) (j := 2) rfl rfl rfl rfl rfl rfl (by repeat' constructor) ?_", "WL.ldAF (T := Ty) (j := 3) rfl rfl rfl rfl rfl rfl (by repeat' constructor) ?_", "WL.ldAF (T := Ty) (j := 4) rfl rfl rfl rfl rfl rfl (by repeat' constructor) ?_", "WL.ldAF (T := Ty) (j := 5) rfl rfl rfl rfl rfl rfl (by repeat' constructor) ?_", "WL.ldAF (T := Ty) (j := 6) rfl rfl rfl rfl rfl rfl (by repeat' constructor) ?_", "WL.ldAF (T := Ty) (j := 7) rfl rfl rfl rfl rfl rfl (by repeat' constructor) ?_", "WL.ldB (T := Ty) rfl rfl rfl rfl (by first | assumption | exact RB.wide (by assumption) | exact In.rb (by assumption)) (by assumption) ?_", "WL.ld (T := Ty) (j := 0) rfl rfl rfl rfl rfl (by assumption) ?_", "WL.ld (T := Ty) (j := 1) rfl rfl rfl rfl rfl (by assumption) ?_", "WL.ld (T := Ty) (j := 2) rfl rfl rfl rfl rfl (by assumption) ?_", "WL.ld (T := Ty) (j := 3) rfl rfl rfl rfl rfl (by assumption) ?_", "WL.ld (T := Ty) (j := 4) rfl rfl rfl rfl rfl (by assumption) ?_", "WL.ld (T := Ty) (j := 5) rfl rfl rfl rfl rfl (by assumption) ?_", "WL.ld (T := Ty) (j := 6) rfl rfl rfl rfl rfl (by assumption) ?_", "WL.ld (T := Ty) (j := 7) rfl rfl rfl rfl rfl (by assumption) ?_", "WL.ldAB (T := Ty) rfl rfl rfl rfl (by first | assumption | exact RB.wide (by assumption) | exact In.rb (by assumption)) (by assumption) (by first | assumption | omega) ?_", "WL.ldA (T := Ty) (j := 0) rfl rfl rfl rfl rfl (by assumption) (by first | assumption | omega) ?_", "WL.ldA (T := Ty) (j := 1) rfl rfl rfl rfl rfl (by assumption) (by first | assumption | omega) ?_", "WL.ldA (T := Ty) (j := 2) rfl rfl rfl rfl rfl (by assumption) (by first | assumption | omega) ?_", "WL.ldA (T := Ty) (j := 3) rfl rfl rfl rfl rfl (by assumption) (by first | assumption | omega) ?_", "WL.ldA (T := Ty) (j := 4) rfl rfl rfl rfl rfl (by assumption) (by first | assumption | omega) ?_", "WL.ldA (T := Ty) (j := 5) rfl rfl rfl rfl rfl (by assumption) (by first | assumption | omega) ?_", "WL.ldA (T := Ty) (j := 6) rfl rfl rfl rfl rfl (by assumption) (by first | assumption | omega) ?_", "WL.ldA (T := Ty) (j := 7) rfl rfl rfl rfl rfl (by assumption) (by first | assumption | omega) ?_", "WL.ldAR (T := Ty) rfl rfl rfl rfl (by first | assumption | exact ROs.wide (by assumption)) (by assumption) rfl ?_", "WL.ldAEF (T := Ty) (j := 0) rfl rfl rfl rfl rfl (by repeat' constructor) (by rfl) ?_", "WL.ldAEF (T := Ty) (j := 1) rfl rfl rfl rfl rfl (by repeat' constructor) (by rfl) ?_", "WL.ldAEF (T := Ty) (j := 2) rfl rfl rfl rfl rfl (by repeat' constructor) (by rfl) ?_", "WL.ldAEF (T := Ty) (j := 3) rfl rfl rfl rfl rfl (by repeat' constructor) (by rfl) ?_", "WL.ldAEF (T := Ty) (j := 4) rfl rfl rfl rfl rfl (by repeat' constructor) (by rfl) ?_", "WL.ldAEF (T := Ty) (j := 5) rfl rfl rfl rfl rfl (by repeat' constructor) (by rfl) ?_", "WL.ldAEF (T := Ty) (j := 6) rfl rfl rfl rfl rfl (by repeat' constructor) (by rfl) ?_", "WL.ldAEF (T := Ty) (j := 7) rfl rfl rfl rfl rfl (by repeat' constructor) (by rfl) ?_", "WL.ldAE (T := Ty) (j := 0) rfl rfl rfl rfl rfl (by assumption) rfl ?_", "WL.ldAE (T := Ty) (j := 1) rfl rfl rfl rfl rfl (by assumption) rfl ?_", "WL.ldAE (T := Ty) (j := 2) rfl rfl rfl rfl rfl (by assumption) rfl ?_", "WL.ldAE (T := Ty) (j := 3) rfl rfl rfl rfl rfl (by assumption) rfl ?_", "WL.ldAE (T := Ty) (j := 4) rfl rfl rfl rfl rfl (by assumption) rfl ?_", "WL.ldAE (T := Ty) (j := 5) rfl rfl rfl rfl rfl (by assumption) rfl ?_", "WL.ldAE (T := Ty) (j := 6) rfl rfl rfl rfl rfl (by assumption) rfl ?_", "WL.ldAE (T := Ty) (j := 7) rfl rfl rfl rfl rfl (by assumption) rfl ?_"]
  | "store" => ["WL.stF (T := Ty) (j := 0) rfl rfl rfl rfl rfl rfl rfl (by repeat' constructor) (by repeat' constructor) ?_", "WL.stF (T := Ty) (j := 1) rfl rfl rfl rfl rfl rfl rfl (by repeat' constructor) (by repeat' constructor) ?_", "WL.stF (T := Ty) (j := 2) rfl rfl rfl rfl rfl rfl rfl (by repeat' constructor) (by repeat' constructor) ?_", "WL.stF (T := Ty) (j := 3) rfl rfl rfl rfl rfl rfl rfl (by repeat' constructor) (by repeat' constructor) ?_", "WL.stF (T := Ty) (j := 4) rfl rfl rfl rfl rfl rfl rfl (by repeat' constructor) (by repeat' constructor) ?_", "WL.stF (T := Ty) (j := 5) rfl rfl rfl rfl rfl rfl rfl (by repeat' constructor) (by repeat' constructor) ?_", "WL.stF (T := Ty) (j := 6) rfl rfl rfl rfl rfl rfl rfl (by repeat' constructor) (by repeat' constructor) ?_", "WL.stF (T := Ty) (j := 7) rfl rfl rfl rfl rfl rfl rfl (by repeat' constructor) (by repeat' constructor) ?_", "WL.stF (T := Ty) (j := 0) rfl rfl rfl rfl (SL.one (by assumption)) rfl rfl (by repeat' constructor) (by repeat' constructor) ?_", "WL.stF (T := Ty) (j := 1) rfl rfl rfl rfl (SL.one (by assumption)) rfl rfl (by repeat' constructor) (by repeat' constructor) ?_", "WL.stF (T := Ty) (j := 2) rfl rfl rfl rfl (SL.one (by assumption)) rfl rfl (by repeat' constructor) (by repeat' constructor) ?_", "WL.stF (T := Ty) (j := 3) rfl rfl rfl rfl (SL.one (by assumption)) rfl rfl (by repeat' constructor) (by repeat' constructor) ?_", "WL.stF (T := Ty) (j := 4) rfl rfl rfl rfl (SL.one (by assumption)) rfl rfl (by repeat' constructor) (by repeat' constructor) ?_", "WL.stF (T := Ty) (j := 5) rfl rfl rfl rfl (SL.one (by assumption)) rfl rfl (by repeat' constructor) (by repeat' constructor) ?_", "WL.stF (T := Ty) (j := 6) rfl rfl rfl rfl (SL.one (by assumption)) rfl rfl (by repeat' constructor) (by repeat' constructor) ?_", "WL.stF (T := Ty) (j := 7) rfl rfl rfl rfl (SL.one (by assumption)) rfl rfl (by repeat' constructor) (by repeat' constructor) ?_", "WL.stAO (T := Ty) (j := 0) rfl rfl rfl rfl (by repeat' first | exact AO.nil | apply AO.cons (by first | rfl | exact SL.one (by assumption))) rfl rfl (by repeat' constructor) (by repeat' constructor) ?_", "WL.stAO (T := Ty) (j := 1) rfl rfl rfl rfl (by repeat' first | exact AO.nil | apply AO.cons (by first | rfl | exact SL.one (by assumption))) rfl rfl (by repeat' constructor) (by repeat' constructor) ?_", "WL.stAO (T := Ty) (j := 2) rfl rfl rfl rfl (by repeat' first | exact AO.nil | apply AO.cons (by first | rfl | exact SL.one (by assumption))) rfl rfl (by repeat' constructor) (by repeat' constructor) ?_", "WL.stAO (T := Ty) (j := 3) rfl rfl rfl rfl (by repeat' first | exact AO.nil | apply AO.cons (by first | rfl | exact SL.one (by assumption))) rfl rfl (by repeat' constructor) (by repeat' constructor) ?_", "WL.stAO (T := Ty) (j := 4) rfl rfl rfl rfl (by repeat' first | exact AO.nil | apply AO.cons (by first | rfl | exact SL.one (by assumption))) rfl rfl (by repeat' constructor) (by repeat' constructor) ?_", "WL.stAO (T := Ty) (j := 5) rfl rfl rfl rfl (by repeat' first | exact AO.nil | apply AO.cons (by first | rfl | exact SL.one (by assumption))) rfl rfl (by repeat' constructor) (by repeat' constructor) ?_", "WL.stAO (T := Ty) (j := 6) rfl rfl rfl rfl (by repeat' first | exact AO.nil | apply AO.cons (by first | rfl | exact SL.one (by assumption))) rfl rfl (by repeat' constructor) (by repeat' constructor) ?_", "WL.stAO (T := Ty) (j := 7) rfl rfl rfl rfl (by repeat' first | exact AO.nil | apply AO.cons (by first | rfl | exact SL.one (by assumption))) rfl rfl (by repeat' constructor) (by repeat' constructor) ?_", "WL.stX (T := Ty) (j := 0) rfl rfl rfl rfl rfl rfl (by first | assumption | (simp; omega)) rfl (by repeat' constructor) ?_", "WL.stX (T := Ty) (j := 1) rfl rfl rfl rfl rfl rfl (by first | assumption | (simp; omega)) rfl (by repeat' constructor) ?_", "WL.stX (T := Ty) (j := 2) rfl rfl rfl rfl rfl rfl (by first | assumption | (simp; omega)) rfl (by repeat' constructor) ?_", "WL.stX (T := Ty) (j := 3) rfl rfl rfl rfl rfl rfl (by first | assumption | (simp; omega)) rfl (by repeat' constructor) ?_", "WL.stX (T := Ty) (j := 4) rfl rfl rfl rfl rfl rfl (by first | assumption | (simp; omega)) rfl (by repeat' constructor) ?_", "WL.stX (T := Ty) (j := 5) rfl rfl rfl rfl rfl rfl (by first | assumption | (simp; omega)) rfl (by repeat' constructor) ?_", "WL.stX (T := Ty) (j := 6) rfl rfl rfl rfl rfl rfl (by first | assumption | (simp; omega)) rfl (by repeat' constructor) ?_", "WL.stX (T := Ty) (j := 7) rfl rfl rfl rfl rfl rfl (by first | assumption | (simp; omega)) rfl (by repeat' constructor) ?_", "WL.stX (T := Ty) (j := 0) rfl rfl rfl rfl (SL.one (by assumption)) rfl (by first | assumption | (simp; omega)) rfl (by repeat' constructor) ?_", "WL.stX (T := Ty) (j := 1) rfl rfl rfl rfl (SL.one (by assumption)) rfl (by first | assumption | (simp; omega)) rfl (by repeat' constructor) ?_", "WL.stX (T := Ty) (j := 2) rfl rfl rfl rfl (SL.one (by assumption)) rfl (by first | assumption | (simp; omega)) rfl (by repeat' constructor) ?_", "WL.stX (T := Ty) (j := 3) rfl rfl rfl rfl (SL.one (by assumption)) rfl (by first | assumption | (simp; omega)) rfl (by repeat' constructor) ?_", "WL.stX (T := Ty) (j := 4) rfl rfl rfl rfl (SL.one (by assumption)) rfl (by first | assumption | (simp; omega)) rfl (by repeat' constructor) ?_", "WL.stX (T := Ty) (j := 5) rfl rfl rfl rfl (SL.one (by assumption)) rfl (by first | assumption | (simp; omega)) rfl (by repeat' constructor) ?_", "WL.stX (T := Ty) (j := 6) rfl rfl rfl rfl (SL.one (by assumption)) rfl (by first | assumption | (simp; omega)) rfl (by repeat' constructor) ?_", "WL.stX (T := Ty) (j := 7) rfl rfl rfl rfl (SL.one (by assumption)) rfl (by first | assumption | (simp; omega)) rfl (by repeat' constructor) ?_", "WL.stEF (T := Ty) (j := 0) rfl rfl rfl rfl rfl rfl (by first | assumption | omega | (simp only [List.length_set]; omega) | (simp; omega)) rfl (by repeat' constructor) ?_", "WL.stEF (T := Ty) (j := 0) rfl rfl rfl rfl (SL.one (by assumption)) rfl (by first | assumption | omega | (simp only [List.length_set]; omega) | (simp; omega)) rfl (by repeat' constructor) ?_", "WL.stEF (T := Ty) (j := 1) rfl rfl rfl rfl rfl rfl (by first | assumption | omega | (simp only [List.length_set]; omega) | (simp; omega)) rfl (by repeat' constructor) ?_", "WL.stEF (T := Ty) (j := 1) rfl rfl rfl rfl (SL.one (by assumption)) rfl (by first | assumption | omega | (simp only [List.length_set]; omega) | (simp; omega)) rfl (by repeat' constructor) ?_", "WL.stEF (T := Ty) (j := 2) rfl rfl rfl rfl rfl rfl (by first | assumption | omega | (simp only [List.length_set]; omega) | (simp; omega)) rfl (by repeat' constructor) ?_", "WL.stEF (T := Ty) (j := 2) rfl rfl rfl rfl (SL.one (by assumption)) rfl (by first | assumption | omega | (simp only [List.length_set]; omega) | (simp; omega)) rfl (by repeat' constructor) ?_", "WL.stEF (T := Ty) (j := 3) rfl rfl rfl rfl rfl rfl (by first | assumption | omega | (simp only [List.length_set]; omega) | (simp; omega)) rfl (by repeat' constructor) ?_", "WL.stEF (T := Ty) (j := 3) rfl rfl rfl rfl (SL.one (by assumption)) rfl (by first | assumption | omega | (simp only [List.length_set]; omega) | (simp; omega)) rfl (by repeat' constructor) ?_", "WL.stEF (T := Ty) (j := 4) rfl rfl rfl rfl rfl rfl (by first | assumption | omega | (simp only [List.length_set]; omega) | (simp; omega)) rfl (by repeat' constructor) ?_", "WL.stEF (T := Ty) (j := 4) rfl rfl rfl rfl (SL.one (by assumption)) rfl (by first | assumption | omega | (simp only [List.length_set]; omega) | (simp; omega)) rfl (by repeat' constructor) ?_", "WL.stEF (T := Ty) (j := 5) rfl rfl rfl rfl rfl rfl (by first | assumption | omega | (simp only [List.length_set]; omega) | (simp; omega)) rfl (by repeat' constructor) ?_", "WL.stEF (T := Ty) (j := 5) rfl rfl rfl rfl (SL.one (by assumption)) rfl (by first | assumption | omega | (simp only [List.length_set]; omega) | (simp; omega)) rfl (by repeat' constructor) ?_", "WL.stEF (T := Ty) (j := 6) rfl rfl rfl rfl rfl rfl (by first | assumption | omega | (simp only [List.length_set]; omega) | (simp; omega)) rfl (by repeat' constructor) ?_", "WL.stEF (T := Ty) (j := 6) rfl rfl rfl rfl (SL.one (by assumption)) rfl (by first | assumption | omega | (simp only [List.length_set]; omega) | (simp; omega)) rfl (by repeat' constructor) ?_", "WL.stEF (T := Ty) (j := 7) rfl rfl rfl rfl rfl rfl (by first | assumption | omega | (simp only [List.length_set]; omega) | (simp; omega)) rfl (by repeat' constructor) ?_", "WL.stEF (T := Ty) (j := 7) rfl rfl rfl rfl (SL.one (by assumption)) rfl (by first | assumption | omega | (simp only [List.length_set]; omega) | (simp; omega)) rfl (by repeat' constructor) ?_", "WL.stAE (T := Ty) (j := 0) rfl rfl rfl rfl (AO.all (by repeat' first | exact AO.nil | apply AO.cons (by first | rfl | exact SL.one (by assumption)))) rfl (by first | assumption | omega | (simp only [List.length_cons, List.length_nil]; omega)) (Nat.zero_lt_succ _) (by repeat' constructor) ?_", "WL.stAE (T := Ty) (j := 1) rfl rfl rfl rfl (AO.all (by repeat' first | exact AO.nil | apply AO.cons (by first | rfl | exact SL.one (by assumption)))) rfl (by first | assumption | omega | (simp only [List.length_cons, List.length_nil]; omega)) (Nat.zero_lt_succ _) (by repeat' constructor) ?_", "WL.stAE (T := Ty) (j := 2) rfl rfl rfl rfl (AO.all (by repeat' first | exact AO.nil | apply AO.cons (by first | rfl | exact SL.one (by assumption)))) rfl (by first | assumption | omega | (simp only [List.length_cons, List.length_nil]; omega)) (Nat.zero_lt_succ _) (by repeat' constructor) ?_", "WL.stAE (T := Ty) (j := 3) rfl rfl rfl rfl (AO.all (by repeat' first | exact AO.nil | apply AO.cons (by first | rfl | exact SL.one (by assumption)))) rfl (by first | assumption | omega | (simp only [List.length_cons, List.length_nil]; omega)) (Nat.zero_lt_succ _) (by repeat' constructor) ?_", "WL.stAE (T := Ty) (j := 4) rfl rfl rfl rfl (AO.all (by repeat' first | exact AO.nil | apply AO.cons (by first | rfl | exact SL.one (by assumption)))) rfl (by first | assumption | omega | (simp only [List.length_cons, List.length_nil]; omega)) (Nat.zero_lt_succ _) (by repeat' constructor) ?_", "WL.stAE (T := Ty) (j := 5) rfl rfl rfl rfl (AO.all (by repeat' first | exact AO.nil | apply AO.cons (by first | rfl | exact SL.one (by assumption)))) rfl (by first | assumption | omega | (simp only [List.length_cons, List.length_nil]; omega)) (Nat.zero_lt_succ _) (by repeat' constructor) ?_", "WL.stAE (T := Ty) (j := 6) rfl rfl rfl rfl (AO.all (by repeat' first | exact AO.nil | apply AO.cons (by first | rfl | exact SL.one (by assumption)))) rfl (by first | assumption | omega | (simp only [List.length_cons, List.length_nil]; omega)) (Nat.zero_lt_succ _) (by repeat' constructor) ?_", "WL.stAE (T := Ty) (j := 7) rfl rfl rfl rfl (AO.all (by repeat' first | exact AO.nil | apply AO.cons (by first | rfl | exact SL.one (by assumption)))) rfl (by first | assumption | omega | (simp only [List.length_cons, List.length_nil]; omega)) (Nat.zero_lt_succ _) (by repeat' constructor) ?_"]
  | "field" => ["WL.fd (T := Ty) rfl rfl rfl rfl rfl rfl rfl ?_"]
  | "c.len" => ["WL.len (T := Ty) rfl rfl (by assumption) rfl ?_", "WL.lenS (T := Ty) rfl rfl rfl ?_", "WL.lenQ (T := Ty) (j := 0) rfl rfl rfl rfl ?_", "WL.lenQ (T := Ty) (j := 1) rfl rfl rfl rfl ?_", "WL.lenQ (T := Ty) (j := 2) rfl rfl rfl rfl ?_", "WL.lenQ (T := Ty) (j := 3) rfl rfl rfl rfl ?_", "WL.lenQ (T := Ty) (j := 4) rfl rfl rfl rfl ?_", "WL.lenQ (T := Ty) (j := 5) rfl rfl rfl rfl ?_"]
  | "c.append" => ["WL.ap1 (T := Ty) (i := 0) rfl rfl rfl rfl rfl rfl rfl rfl (by assumption) (by first | rfl | assumption) (by first | omega | (simp; omega) | (simp only [List.length_drop, List.length_take]; omega)) (by first | omega | (simp; omega) | (simp only [List.length_drop, List.length_take]; omega)) (fun v' => (by repeat' constructor)) (fun u$N hu$N => ?_)", "WL.ap1 (T := Ty) (i := 1) rfl rfl rfl rfl rfl rfl rfl rfl (by assumption) (by first | rfl | assumption) (by first | omega | (simp; omega) | (simp only [List.length_drop, List.length_take]; omega)) (by first | omega | (simp; omega) | (simp only [List.length_drop, List.length_take]; omega)) (fun v' => (by repeat' constructor)) (fun u$N hu$N => ?_)", "WL.ap1 (T := Ty) (i := 2) rfl rfl rfl rfl rfl rfl rfl rfl (by assumption) (by first | rfl | assumption) (by first | omega | (simp; omega) | (simp only [List.length_drop, List.length_take]; omega)) (by first | omega | (simp; omega) | (simp only [List.length_drop, List.length_take]; omega)) (fun v' => (by repeat' constructor)) (fun u$N hu$N => ?_)", "WL.ap1 (T := Ty) (i := 3) rfl rfl rfl rfl rfl rfl rfl rfl (by assumption) (by first | rfl | assumption) (by first | omega | (simp; omega) | (simp only [List.length_drop, List.length_take]; omega)) (by first | omega | (simp; omega) | (simp only [List.length_drop, List.length_take]; omega)) (fun v' => (by repeat' constructor)) (fun u$N hu$N => ?_)", "WL.ap1 (T := Ty) (i := 4) rfl rfl rfl rfl rfl rfl rfl rfl (by assumption) (by first | rfl | assumption) (by first | omega | (simp; omega) | (simp only [List.length_drop, List.length_take]; omega)) (by first | omega | (simp; omega) | (simp only [List.length_drop, List.length_take]; omega)) (fun v' => (by repeat' constructor)) (fun u$N hu$N => ?_)", "WL.ap1 (T := Ty) (i := 5) rfl rfl rfl rfl rfl rfl rfl rfl (by assumption) (by first | rfl | assumption) (by first | omega | (simp; omega) | (simp only [List.length_drop, List.length_take]; omega)) (by first | omega | (simp; omega) | (simp only [List.length_drop, List.length_take]; omega)) (fun v' => (by repeat' constructor)) (fun u$N hu$N => ?_)", "WL.apN (T := Ty) (i := 0) rfl rfl rfl rfl rfl rfl rfl (by first | exact .ro (by assumption) | exact .ro (ROs.wide (by assumption)) | exact .eqJ 0 rfl (by assumption) | exact .own 0 rfl | exact .own 1 rfl | exact .own 2 rfl | exact .own 3 rfl | exact .own 4 rfl | exact .own 5 rfl) (by first | assumption | exact ROs.slm (by assumption)) (fun _ => rfl) (by first | omega | (simp; omega) | (simp only [List.length_drop, List.length_take]; omega)) (by first | omega | (simp; omega) | (simp only [List.length_drop, List.length_take]; omega)) (fun v' => (by repeat' constructor)) (fun u$N hu$N => ?_)", "WL.apN (T := Ty) (i := 1) rfl rfl rfl rfl rfl rfl rfl (by first | exact .ro (by assumption) | exact .ro (ROs.wide (by assumption)) | exact .eqJ 0 rfl (by assumption) | exact .own 0 rfl | exact .own 1 rfl | exact .own 2 rfl | exact .own 3 rfl | exact .own 4 rfl | exact .own 5 rfl) (by first | assumption | exact ROs.slm (by assumption)) (fun _ => rfl) (by first | omega | (simp; omega) | (simp only [List.length_drop, List.length_take]; omega)) (by first | omega | (simp; omega) | (simp only [List.length_drop, List.length_take]; omega)) (fun v' => (by repeat' constructor)) (fun u$N hu$N => ?_)", "WL.apN (T := Ty) (i := 2) rfl rfl rfl rfl rfl rfl rfl (by first | exact .ro (by assumption) | exact .ro (ROs.wide (by assumption)) | exact .eqJ 0 rfl (by assumption) | exact .own 0 rfl | exact .own 1 rfl | exact .own 2 rfl | exact .own 3 rfl | exact .own 4 rfl | exact .own 5 rfl) (by first | assumption | exact ROs.slm (by assumption)) (fun _ => rfl) (by first | omega | (simp; omega) | (simp only [List.length_drop, List.length_take]; omega)) (by first | omega | (simp; omega) | (simp only [List.length_drop, List.length_take]; omega)) (fun v' => (by repeat' constructor)) (fun u$N hu$N => ?_)", "WL.apN (T := Ty) (i := 3) rfl rfl rfl rfl rfl rfl rfl (by first | exact .ro (by assumption) | exact .ro (ROs.wide (by assumption)) | exact .eqJ 0 rfl (by assumption) | exact .own 0 rfl | exact .own 1 rfl | exact .own 2 rfl | exact .own 3 rfl | exact .own 4 rfl | exact .own 5 rfl) (by first | assumption | exact ROs.slm (by assumption)) (fun _ => rfl) (by first | omega | (simp; omega) | (simp only [List.length_drop, List.length_take]; omega)) (by first | omega | (simp; omega) | (simp only [List.length_drop, List.length_take]; omega)) (fun v' => (by repeat' constructor)) (fun u$N hu$N => ?_)", "WL.apN (T := Ty) (i := 4) rfl rfl rfl rfl rfl rfl rfl (by first | exact .ro (by assumption) | exact .ro (ROs.wide (by assumption)) | exact .eqJ 0 rfl (by assumption) | exact .own 0 rfl | exact .own 1 rfl | exact .own 2 rfl | exact .own 3 rfl | exact .own 4 rfl | exact .own 5 rfl) (by first | assumption | exact ROs.slm (by assumption)) (fun _ => rfl) (by first | omega | (simp; omega) | (simp only [List.length_drop, List.length_take]; omega)) (by first | omega | (simp; omega) | (simp only [List.length_drop, List.length_take]; omega)) (fun v' => (by repeat' constructor)) (fun u$N hu$N => ?_)", "WL.apN (T := Ty) (i := 5) rfl rfl rfl rfl rfl rfl rfl (by first | exact .ro (by assumption) | exact .ro (ROs.wide (by assumption)) | exact .eqJ 0 rfl (by assumption) | exact .own 0 rfl | exact .own 1 rfl | exact .own 2 rfl | exact .own 3 rfl | exact .own 4 rfl | exact .own 5 rfl) (by first | assumption | exact ROs.slm (by assumption)) (fun _ => rfl) (by first | omega | (simp; omega) | (simp only [List.length_drop, List.length_take]; omega)) (by first | omega | (simp; omega) | (simp only [List.length_drop, List.length_take]; omega)) (fun v' => (by repeat' constructor)) (fun u$N hu$N => ?_)", "WL.apN (T := Ty) (i := 6) rfl rfl rfl rfl rfl rfl rfl (by first | exact .ro (by assumption) | exact .ro (ROs.wide (by assumption)) | exact .eqJ 0 rfl (by assumption) | exact .own 0 rfl | exact .own 1 rfl | exact .own 2 rfl | exact .own 3 rfl | exact .own 4 rfl | exact .own 5 rfl) (by first | assumption | exact ROs.slm (by assumption)) (fun _ => rfl) (by first | omega | (simp; omega) | (simp only [List.length_drop, List.length_take]; omega)) (by first | omega | (simp; omega) | (simp only [List.length_drop, List.length_take]; omega)) (fun v' => (by repeat' constructor)) (fun u$N hu$N => ?_)", "WL.apQ (T := Ty) (i := 0) rfl rfl rfl rfl rfl rfl rfl (by first | exact .ro (by assumption) | exact .ro (ROs.wide (by assumption)) | exact .eqJ 0 rfl (by assumption) | exact .own 0 rfl | exact .own 1 rfl | exact .own 2 rfl | exact .own 3 rfl | exact .own 4 rfl | exact .own 5 rfl) (by first | assumption | exact ROs.slm (by assumption)) (fun _ => rfl) (by first | omega | (simp; omega) | (simp only [List.length_drop, List.length_take]; omega)) (by first | omega | (simp; omega) | (simp only [List.length_drop, List.length_take]; omega)) (fun v' => (by repeat' constructor)) (fun u$N hu$N => ?_)", "WL.apQ (T := Ty) (i := 1) rfl rfl rfl rfl rfl rfl rfl (by first | exact .ro (by assumption) | exact .ro (ROs.wide (by assumption)) | exact .eqJ 0 rfl (by assumption) | exact .own 0 rfl | exact .own 1 rfl | exact .own 2 rfl | exact .own 3 rfl | exact .own 4 rfl | exact .own 5 rfl) (by first | assumption | exact ROs.slm (by assumption)) (fun _ => rfl) (by first | omega | (simp; omega) | (simp only [List.length_drop, List.length_take]; omega)) (by first | omega | (simp; omega) | (simp only [List.length_drop, List.length_take]; omega)) (fun v' => (by repeat' constructor)) (fun u$N hu$N => ?_)", "WL.apQ (T := Ty) (i := 2) rfl rfl rfl rfl rfl rfl rfl (by first | exact .ro (by assumption) | exact .ro (ROs.wide (by assumption)) | exact .eqJ 0 rfl (by assumption) | exact .own 0 rfl | exact .own 1 rfl | exact .own 2 rfl | exact .own 3 rfl | exact .own 4 rfl | exact .own 5 rfl) (by first | assumption | exact ROs.slm (by assumption)) (fun _ => rfl) (by first | omega | (simp; omega) | (simp only [List.length_drop, List.length_take]; omega)) (by first | omega | (simp; omega) | (simp only [List.length_drop, List.length_take]; omega)) (fun v' => (by repeat' constructor)) (fun u$N hu$N => ?_)", "WL.apQ (T := Ty) (i := 3) rfl rfl rfl rfl rfl rfl rfl (by first | exact .ro (by assumption) | exact .ro (ROs.wide (by assumption)) | exact .eqJ 0 rfl (by assumption) | exact .own 0 rfl | exact .own 1 rfl | exact .own 2 rfl | exact .own 3 rfl | exact .own 4 rfl | exact .own 5 rfl) (by first | assumption | exact ROs.slm (by assumption)) (fun _ => rfl) (by first | omega | (simp; omega) | (simp only [List.length_drop, List.length_take]; omega)) (by first | omega | (simp; omega) | (simp only [List.length_drop, List.length_take]; omega)) (fun v' => (by repeat' constructor)) (fun u$N hu$N => ?_)", "WL.apQ (T := Ty) (i := 4) rfl rfl rfl rfl rfl rfl rfl (by first | exact .ro (by assumption) | exact .ro (ROs.wide (by assumption)) | exact .eqJ 0 rfl (by assumption) | exact .own 0 rfl | exact .own 1 rfl | exact .own 2 rfl | exact .own 3 rfl | exact .own 4 rfl | exact .own 5 rfl) (by first | assumption | exact ROs.slm (by assumption)) (fun _ => rfl) (by first | omega | (simp; omega) | (simp only [List.length_drop, List.length_take]; omega)) (by first | omega | (simp; omega) | (simp only [List.length_drop, List.length_take]; omega)) (fun v' => (by repeat' constructor)) (fun u$N hu$N => ?_)", "WL.apQ (T := Ty) (i := 5) rfl rfl rfl rfl rfl rfl rfl (by first | exact .ro (by assumption) | exact .ro (ROs.wide (by assumption)) | exact .eqJ 0 rfl (by assumption) | exact .own 0 rfl | exact .own 1 rfl | exact .own 2 rfl | exact .own 3 rfl | exact .own 4 rfl | exact .own 5 rfl) (by first | assumption | exact ROs.slm (by assumption)) (fun _ => rfl) (by first | omega | (simp; omega) | (simp only [List.length_drop, List.length_take]; omega)) (by first | omega | (simp; omega) | (simp only [List.length_drop, List.length_take]; omega)) (fun v' => (by repeat' constructor)) (fun u$N hu$N => ?_)", "WL.apQ (T := Ty) (i := 6) rfl rfl rfl rfl rfl rfl rfl (by first | exact .ro (by assumption) | exact .ro (ROs.wide (by assumption)) | exact .eqJ 0 rfl (by assumption) | exact .own 0 rfl | exact .own 1 rfl | exact .own 2 rfl | exact .own 3 rfl | exact .own 4 rfl | exact .own 5 rfl) (by first | assumption | exact ROs.slm (by assumption)) (fun _ => rfl) (by first | omega | (simp; omega) | (simp only [List.length_drop, List.length_take]; omega)) (by first | omega | (simp; omega) | (simp only [List.length_drop, List.length_take]; omega)) (fun v' => (by repeat' constructor)) (fun u$N hu$N => ?_)", "WL.apMM (T := Ty) (i := 0) rfl rfl rfl rfl rfl rfl rfl (by first | exact .ro (by assumption) | exact .ro (ROs.wide (by assumption)) | exact .eqJ 0 rfl (by assumption) | exact .own 0 rfl | exact .own 1 rfl | exact .own 2 rfl | exact .own 3 rfl | exact .own 4 rfl | exact .own 5 rfl) (by first | assumption | exact ROs.slm (by assumption)) (fun _ => rfl) (by first | omega | (simp; omega) | (simp only [List.length_drop, List.length_take]; omega)) (by first | omega | (simp; omega) | (simp only [List.length_drop, List.length_take]; omega)) (fun v' => (by repeat' constructor)) (fun u$N hu$N => ?_)", "WL.apMM (T := Ty) (i := 1) rfl rfl rfl rfl rfl rfl rfl (by first | exact .ro (by assumption) | exact .ro (ROs.wide (by assumption)) | exact .eqJ 0 rfl (by assumption) | exact .own 0 rfl | exact .own 1 rfl | exact .own 2 rfl | exact .own 3 rfl | exact .own 4 rfl | exact .own 5 rfl) (by first | assumption | exact ROs.slm (by assumption)) (fun _ => rfl) (by first | omega | (simp; omega) | (simp only [List.length_drop, List.length_take]; omega)) (by first | omega | (simp; omega) | (simp only [List.length_drop, List.length_take]; omega)) (fun v' => (by repeat' constructor)) (fun u$N hu$N => ?_)", "WL.apMM (T := Ty) (i := 2) rfl rfl rfl rfl rfl rfl rfl (by first | exact .ro (by assumption) | exact .ro (ROs.wide (by assumption)) | exact .eqJ 0 rfl (by assumption) | exact .own 0 rfl | exact .own 1 rfl | exact .own 2 rfl | exact .own 3 rfl | exact .own 4 rfl | exact .own 5 rfl) (by first | assumption | exact ROs.slm (by assumption)) (fun _ => rfl) (by first | omega | (simp; omega) | (simp only [List.length_drop, List.length_take]; omega)) (by first | omega | (simp; omega) | (simp only [List.length_drop, List.length_take]; omega)) (fun v' => (by repeat' constructor)) (fun u$N hu$N => ?_)", "WL.apMM (T := Ty) (i := 3) rfl rfl rfl rfl rfl rfl rfl (by first | exact .ro (by assumption) | exact .ro (ROs.wide (by assumption)) | exact .eqJ 0 rfl (by assumption) | exact .own 0 rfl | exact .own 1 rfl | exact .own 2 rfl | exact .own 3 rfl | exact .own 4 rfl | exact .own 5 rfl) (by first | assumption | exact ROs.slm (by assumption)) (fun _ => rfl) (by first | omega | (simp; omega) | (simp only [List.length_drop, List.length_take]; omega)) (by first | omega | (simp; omega) | (simp only [List.length_drop, List.length_take]; omega)) (fun v' => (by repeat' constructor)) (fun u$N hu$N => ?_)", "WL.apMM (T := Ty) (i := 4) rfl rfl rfl rfl rfl rfl rfl (by first | exact .ro (by assumption) | exact .ro (ROs.wide (by assumption)) | exact .eqJ 0 rfl (by assumption) | exact .own 0 rfl | exact .own 1 rfl | exact .own 2 rfl | exact .own 3 rfl | exact .own 4 rfl | exact .own 5 rfl) (by first | assumption | exact ROs.slm (by assumption)) (fun _ => rfl) (by first | omega | (simp; omega) | (simp only [List.length_drop, List.length_take]; omega)) (by first | omega | (simp; omega) | (simp only [List.length_drop, List.length_take]; omega)) (fun v' => (by repeat' constructor)) (fun u$N hu$N => ?_)", "WL.apMM (T := Ty) (i := 5) rfl rfl rfl rfl rfl rfl rfl (by first | exact .ro (by assumption) | exact .ro (ROs.wide (by assumption)) | exact .eqJ 0 rfl (by assumption) | exact .own 0 rfl | exact .own 1 rfl | exact .own 2 rfl | exact .own 3 rfl | exact .own 4 rfl | exact .own 5 rfl) (by first | assumption | exact ROs.slm (by assumption)) (fun _ => rfl) (by first | omega | (simp; omega) | (simp only [List.length_drop, List.length_take]; omega)) (by first | omega | (simp; omega) | (simp only [List.length_drop, List.length_take]; omega)) (fun v' => (by repeat' constructor)) (fun u$N hu$N => ?_)", "WL.apMM (T := Ty) (i := 6) rfl rfl rfl rfl rfl rfl rfl (by first | exact .ro (by assumption) | exact .ro (ROs.wide (by assumption)) | exact .eqJ 0 rfl (by assumption) | exact .own 0 rfl | exact .own 1 rfl | exact .own 2 rfl | exact .own 3 rfl | exact .own 4 rfl | exact .own 5 rfl) (by first | assumption | exact ROs.slm (by assumption)) (fun _ => rfl) (by first | omega | (simp; omega) | (simp only [List.length_drop, List.length_take]; omega)) (by first | omega | (simp; omega) | (simp only [List.length_drop, List.length_take]; omega)) (fun v' => (by repeat' constructor)) (fun u$N hu$N => ?_)", "WL.apZ (T := Ty) (i := 0) rfl rfl rfl rfl rfl rfl rfl rfl rfl (fun _ => rfl) (by first | omega | (simp; omega) | (simp only [List.length_drop, List.length_take]; omega)) (by first | omega | (simp; omega) | (simp only [List.length_drop, List.length_take]; omega)) (fun v' => (by repeat' constructor)) (fun u$N hu$N => ?_)", "WL.apZ (T := Ty) (i := 1) rfl rfl rfl rfl rfl rfl rfl rfl rfl (fun _ => rfl) (by first | omega | (simp; omega) | (simp only [List.length_drop, List.length_take]; omega)) (by first | omega | (simp; omega) | (simp only [List.length_drop, List.length_take]; omega)) (fun v' => (by repeat' constructor)) (fun u$N hu$N => ?_)", "WL.apZ (T := Ty) (i := 2) rfl rfl rfl rfl rfl rfl rfl rfl rfl (fun _ => rfl) (by first | omega | (simp; omega) | (simp only [List.length_drop, List.length_take]; omega)) (by first | omega | (simp; omega) | (simp only [List.length_drop, List.length_take]; omega)) (fun v' => (by repeat' constructor)) (fun u$N hu$N => ?_)", "WL.apZe (T := Ty) (i := 0) rfl rfl rfl (by assumption) rfl rfl rfl rfl rfl rfl (fun _ => rfl) (by first | omega | (simp; omega) | (simp only [List.length_drop, List.length_take]; omega)) (by first | omega | (simp; omega) | (simp only [List.length_drop, List.length_take]; omega)) (fun v' => (by repeat' constructor)) (fun u$N hu$N => ?_)", "WL.apZe (T := Ty) (i := 1) rfl rfl rfl (by assumption) rfl rfl rfl rfl rfl rfl (fun _ => rfl) (by first | omega | (simp; omega) | (simp only [List.length_drop, List.length_take]; omega)) (by first | omega | (simp; omega) | (simp only [List.length_drop, List.length_take]; omega)) (fun v' => (by repeat' constructor)) (fun u$N hu$N => ?_)", "WL.apZe (T := Ty) (i := 2) rfl rfl rfl (by assumption) rfl rfl rfl rfl rfl rfl (fun _ => rfl) (by first | omega | (simp; omega) | (simp only [List.length_drop, List.length_take]; omega)) (by first | omega | (simp; omega) | (simp only [List.length_drop, List.length_take]; omega)) (fun v' => (by repeat' constructor)) (fun u$N hu$N => ?_)", "WL.apS (T := Ty) (i := 0) rfl rfl rfl rfl rfl rfl rfl rfl rfl (by first | rfl | assumption) rfl (by assumption) (by repeat' first | exact AO.nil | apply AO.cons (by first | rfl | exact SL.one (by assumption))) (by first | omega | (simp; omega) | (simp only [List.length_drop, List.length_take]; omega)) (by first | omega | (simp; omega) | (simp only [List.length_drop, List.length_take]; omega)) (fun v' => (by repeat' constructor)) (fun u$N hu$N => ?_)", "WL.apS (T := Ty) (i := 1) rfl rfl rfl rfl rfl rfl rfl rfl rfl (by first | rfl | assumption) rfl (by assumption) (by repeat' first | exact AO.nil | apply AO.cons (by first | rfl | exact SL.one (by assumption))) (by first | omega | (simp; omega) | (simp only [List.length_drop, List.length_take]; omega)) (by first | omega | (simp; omega) | (simp only [List.length_drop, List.length_take]; omega)) (fun v' => (by repeat' constructor)) (fun u$N hu$N => ?_)", "WL.apS (T := Ty) (i := 2) rfl rfl rfl rfl rfl rfl rfl rfl rfl (by first | rfl | assumption) rfl (by assumption) (by repeat' first | exact AO.nil | apply AO.cons (by first | rfl | exact SL.one (by assumption))) (by first | omega | (simp; omega) | (simp only [List.length_drop, List.length_take]; omega)) (by first | omega | (simp; omega) | (simp only [List.length_drop, List.length_take]; omega)) (fun v' => (by repeat' constructor)) (fun u$N hu$N => ?_)", "WL.apS (T := Ty) (i := 3) rfl rfl rfl rfl rfl rfl rfl rfl rfl (by first | rfl | assumption) rfl (by assumption) (by repeat' first | exact AO.nil | apply AO.cons (by first | rfl | exact SL.one (by assumption))) (by first | omega | (simp; omega) | (simp only [List.length_drop, List.length_take]; omega)) (by first | omega | (simp; omega) | (simp only [List.length_drop, List.length_take]; omega)) (fun v' => (by repeat' constructor)) (fun u$N hu$N => ?_)", "WL.apS (T := Ty) (i := 4) rfl rfl rfl rfl rfl rfl rfl rfl rfl (by first | rfl | assumption) rfl (by assumption) (by repeat' first | exact AO.nil | apply AO.cons (by first | rfl | exact SL.one (by assumption))) (by first | omega | (simp; omega) | (simp only [List.length_drop, List.length_take]; omega)) (by first | omega | (simp; omega) | (simp only [List.length_drop, List.length_take]; omega)) (fun v' => (by repeat' constructor)) (fun u$N hu$N => ?_)", "WL.apS (T := Ty) (i := 5) rfl rfl rfl rfl rfl rfl rfl rfl rfl (by first | rfl | assumption) rfl (by assumption) (by repeat' first | exact AO.nil | apply AO.cons (by first | rfl | exact SL.one (by assumption))) (by first | omega | (simp; omega) | (simp only [List.length_drop, List.length_take]; omega)) (by first | omega | (simp; omega) | (simp only [List.length_drop, List.length_take]; omega)) (fun v' => (by repeat' constructor)) (fun u$N hu$N => ?_)", "WL.apS (T := Ty) (i := 6) rfl rfl rfl rfl rfl rfl rfl rfl rfl (by first | rfl | assumption) rfl (by assumption) (by repeat' first | exact AO.nil | apply AO.cons (by first | rfl | exact SL.one (by assumption))) (by first | omega | (simp; omega) | (simp only [List.length_drop, List.length_take]; omega)) (by first | omega | (simp; omega) | (simp only [List.length_drop, List.length_take]; omega)) (fun v' => (by repeat' constructor)) (fun u$N hu$N => ?_)", "WL.ap (T := Ty) (i := 0) (m := 1) rfl rfl rfl rfl rfl rfl rfl rfl (by first | exact .ro (by assumption) | exact .ro (ROs.wide (by assumption)) | exact .eqJ 0 rfl (by assumption) | exact .own 0 rfl | exact .own 1 rfl | exact .own 2 rfl | exact .own 3 rfl | exact .own 4 rfl | exact .own 5 rfl) (by first | assumption | exact ROs.slm (by assumption)) (by assumption) (by rfl) (AO.all (by repeat' first | exact AO.nil | apply AO.cons (by first | rfl | exact SL.one (by assumption)))) (by first | omega | (simp; omega) | (simp only [List.length_drop, List.length_take]; omega)) (by unfold maxLen; first | omega | (simp only [List.length_drop, List.length_take]; omega)) (fun v' => (by repeat' constructor)) (fun u$N hu$N => ?_)", "WL.ap (T := Ty) (i := 1) (m := 1) rfl rfl rfl rfl rfl rfl rfl rfl (by first | exact .ro (by assumption) | exact .ro (ROs.wide (by assumption)) | exact .eqJ 0 rfl (by assumption) | exact .own 0 rfl | exact .own 1 rfl | exact .own 2 rfl | exact .own 3 rfl | exact .own 4 rfl | exact .own 5 rfl) (by first | assumption | exact ROs.slm (by assumption)) (by assumption) (by rfl) (AO.all (by repeat' first | exact AO.nil | apply AO.cons (by first | rfl | exact SL.one (by assumption)))) (by first | omega | (simp; omega) | (simp only [List.length_drop, List.length_take]; omega)) (by unfold maxLen; first | omega | (simp only [List.length_drop, List.length_take]; omega)) (fun v' => (by repeat' constructor)) (fun u$N hu$N => ?_)", "WL.ap (T := Ty) (i := 2) (m := 1) rfl rfl rfl rfl rfl rfl rfl rfl (by first | exact .ro (by assumption) | exact .ro (ROs.wide (by assumption)) | exact .eqJ 0 rfl (by assumption) | exact .own 0 rfl | exact .own 1 rfl | exact .own 2 rfl | exact .own 3 rfl | exact .own 4 rfl | exact .own 5 rfl) (by first | assumption | exact ROs.slm (by assumption)) (by assumption) (by rfl) (AO.all (by repeat' first | exact AO.nil | apply AO.cons (by first | rfl | exact SL.one (by assumption)))) (by first | omega | (simp; omega) | (simp only [List.length_drop, List.length_take]; omega)) (by unfold maxLen; first | omega | (simp only [List.length_drop, List.length_take]; omega)) (fun v' => (by repeat' constructor)) (fun u$N hu$N => ?_)", "WL.ap (T := Ty) (i := 3) (m := 1) rfl rfl rfl rfl rfl rfl rfl rfl (by first | exact .ro (by assumption) | exact .ro (ROs.wide (by assumption)) | exact .eqJ 0 rfl (by assumption) | exact .own 0 rfl | exact .own 1 rfl | exact .own 2 rfl | exact .own 3 rfl | exact .own 4 rfl | exact .own 5 rfl) (by first | assumption | exact ROs.slm (by assumption)) (by assumption) (by rfl) (AO.all (by repeat' first | exact AO.nil | apply AO.cons (by first | rfl | exact SL.one (by assumption)))) (by first | omega | (simp; omega) | (simp only [List.length_drop, List.length_take]; omega)) (by unfold maxLen; first | omega | (simp only [List.length_drop, List.length_take]; omega)) (fun v' => (by repeat' constructor)) (fun u$N hu$N => ?_)", "WL.ap (T := Ty) (i := 4) (m := 1) rfl rfl rfl rfl rfl rfl rfl rfl (by first | exact .ro (by assumption) | exact .ro (ROs.wide (by assumption)) | exact .eqJ 0 rfl (by assumption) | exact .own 0 rfl | exact .own 1 rfl | exact .own 2 rfl | exact .own 3 rfl | exact .own 4 rfl | exact .own 5 rfl) (by first | assumption | exact ROs.slm (by assumption)) (by assumption) (by rfl) (AO.all (by repeat' first | exact AO.nil | apply AO.cons (by first | rfl | exact SL.one (by assumption)))) (by first | omega | (simp; omega) | (simp only [List.length_drop, List.length_take]; omega)) (by unfold maxLen; first | omega | (simp only [List.length_drop, List.length_take]; omega)) (fun v' => (by repeat' constructor)) (fun u$N hu$N => ?_)", "WL.ap (T := Ty) (i := 5) (m := 1) rfl rfl rfl rfl rfl rfl rfl rfl (by first | exact .ro (by assumption) | exact .ro (ROs.wide (by assumption)) | exact .eqJ 0 rfl (by assumption) | exact .own 0 rfl | exact .own 1 rfl | exact .own 2 rfl | exact .own 3 rfl | exact .own 4 rfl | exact .own 5 rfl) (by first | assumption | exact ROs.slm (by assumption)) (by assumption) (by rfl) (AO.all (by repeat' first | exact AO.nil | apply AO.cons (by first | rfl | exact SL.one (by assumption)))) (by first | omega | (simp; omega) | (simp only [List.length_drop, List.length_take]; omega)) (by unfold maxLen; first | omega | (simp only [List.length_drop, List.length_take]; omega)) (fun v' => (by repeat' constructor)) (fun u$N hu$N => ?_)", "WL.ap (T := Ty) (i := 6) (m := 1) rfl rfl rfl rfl rfl rfl rfl rfl (by first | exact .ro (by assumption) | exact .ro (ROs.wide (by assumption)) | exact .eqJ 0 rfl (by assumption) | exact .own 0 rfl | exact .own 1 rfl | exact .own 2 rfl | exact .own 3 rfl | exact .own 4 rfl | exact .own 5 rfl) (by first | assumption | exact ROs.slm (by assumption)) (by assumption) (by rfl) (AO.all (by repeat' first | exact AO.nil | apply AO.cons (by first | rfl | exact SL.one (by assumption)))) (by first | omega | (simp; omega) | (simp only [List.length_drop, List.length_take]; omega)) (by unfold maxLen; first | omega | (simp only [List.length_drop, List.length_take]; omega)) (fun v' => (by repeat' constructor)) (fun u$N hu$N => ?_)", "WL.ap (T := Ty) (i := 0) (n := 0) rfl rfl rfl rfl rfl rfl rfl rfl (by first | exact .ro (by assumption) | exact .ro (ROs.wide (by assumption)) | exact .eqJ 0 rfl (by assumption) | exact .own 0 rfl | exact .own 1 rfl | exact .own 2 rfl | exact .own 3 rfl | exact .own 4 rfl | exact .own 5 rfl) (by first | assumption | exact ROs.slm (by assumption)) rfl (by assumption) (by assumption) (by first | omega | (simp; omega) | (simp only [List.length_drop, List.length_take]; omega)) (by unfold maxLen; first | omega | (simp only [List.length_drop, List.length_take]; omega)) (fun v' => (by repeat' constructor)) (fun u$N hu$N => ?_)", "WL.ap (T := Ty) (i := 1) (n := 0) rfl rfl rfl rfl rfl rfl rfl rfl (by first | exact .ro (by assumption) | exact .ro (ROs.wide (by assumption)) | exact .eqJ 0 rfl (by assumption) | exact .own 0 rfl | exact .own 1 rfl | exact .own 2 rfl | exact .own 3 rfl | exact .own 4 rfl | exact .own 5 rfl) (by first | assumption | exact ROs.slm (by assumption)) rfl (by assumption) (by assumption) (by first | omega | (simp; omega) | (simp only [List.length_drop, List.length_take]; omega)) (by unfold maxLen; first | omega | (simp only [List.length_drop, List.length_take]; omega)) (fun v' => (by repeat' constructor)) (fun u$N hu$N => ?_)", "WL.ap (T := Ty) (i := 2) (n := 0) rfl rfl rfl rfl rfl rfl rfl rfl (by first | exact .ro (by assumption) | exact .ro (ROs.wide (by assumption)) | exact .eqJ 0 rfl (by assumption) | exact .own 0 rfl | exact .own 1 rfl | exact .own 2 rfl | exact .own 3 rfl | exact .own 4 rfl | exact .own 5 rfl) (by first | assumption | exact ROs.slm (by assumption)) rfl (by assumption) (by assumption) (by first | omega | (simp; omega) | (simp only [List.length_drop, List.length_take]; omega)) (by unfold maxLen; first | omega | (simp only [List.length_drop, List.length_take]; omega)) (fun v' => (by repeat' constructor)) (fun u$N hu$N => ?_)", "WL.ap (T := Ty) (i := 3) (n := 0) rfl rfl rfl rfl rfl rfl rfl rfl (by first | exact .ro (by assumption) | exact .ro (ROs.wide (by assumption)) | exact .eqJ 0 rfl (by assumption) | exact .own 0 rfl | exact .own 1 rfl | exact .own 2 rfl | exact .own 3 rfl | exact .own 4 rfl | exact .own 5 rfl) (by first | assumption | exact ROs.slm (by assumption)) rfl (by assumption) (by assumption) (by first | omega | (simp; omega) | (simp only [List.length_drop, List.length_take]; omega)) (by unfold maxLen; first | omega | (simp only [List.length_drop, List.length_take]; omega)) (fun v' => (by repeat' constructor)) (fun u$N hu$N => ?_)", "WL.ap (T := Ty) (i := 4) (n := 0) rfl rfl rfl rfl rfl rfl rfl rfl (by first | exact .ro (by assumption) | exact .ro (ROs.wide (by assumption)) | exact .eqJ 0 rfl (by assumption) | exact .own 0 rfl | exact .own 1 rfl | exact .own 2 rfl | exact .own 3 rfl | exact .own 4 rfl | exact .own 5 rfl) (by first | assumption | exact ROs.slm (by assumption)) rfl (by assumption) (by assumption) (by first | omega | (simp; omega) | (simp only [List.length_drop, List.length_take]; omega)) (by unfold maxLen; first | omega | (simp only [List.length_drop, List.length_take]; omega)) (fun v' => (by repeat' constructor)) (fun u$N hu$N => ?_)", "WL.ap (T := Ty) (i := 5) (n := 0) rfl rfl rfl rfl rfl rfl rfl rfl (by first | exact .ro (by assumption) | exact .ro (ROs.wide (by assumption)) | exact .eqJ 0 rfl (by assumption) | exact .own 0 rfl | exact .own 1 rfl | exact .own 2 rfl | exact .own 3 rfl | exact .own 4 rfl | exact .own 5 rfl) (by first | assumption | exact ROs.slm (by assumption)) rfl (by assumption) (by assumption) (by first | omega | (simp; omega) | (simp only [List.length_drop, List.length_take]; omega)) (by unfold maxLen; first | omega | (simp only [List.length_drop, List.length_take]; omega)) (fun v' => (by repeat' constructor)) (fun u$N hu$N => ?_)", "WL.ap (T := Ty) (i := 6) (n := 0) rfl rfl rfl rfl rfl rfl rfl rfl (by first | exact .ro (by assumption) | exact .ro (ROs.wide (by assumption)) | exact .eqJ 0 rfl (by assumption) | exact .own 0 rfl | exact .own 1 rfl | exact .own 2 rfl | exact .own 3 rfl | exact .own 4 rfl | exact .own 5 rfl) (by first | assumption | exact ROs.slm (by assumption)) rfl (by assumption) (by assumption) (by first | omega | (simp; omega) | (simp only [List.length_drop, List.length_take]; omega)) (by unfold maxLen; first | omega | (simp only [List.length_drop, List.length_take]; omega)) (fun v' => (by repeat' constructor)) (fun u$N hu$N => ?_)", "WL.ap (T := Ty) (i := 0) rfl rfl rfl rfl rfl rfl rfl rfl (by first | exact .ro (by assumption) | exact .ro (ROs.wide (by assumption)) | exact .eqJ 0 rfl (by assumption) | exact .own 0 rfl | exact .own 1 rfl | exact .own 2 rfl | exact .own 3 rfl | exact .own 4 rfl | exact .own 5 rfl) (by first | assumption | exact ROs.slm (by assumption)) (by assumption) (by assumption) (by assumption) (by first | omega | (simp; omega) | (simp only [List.length_drop, List.length_take]; omega)) (by unfold maxLen; first | omega | (simp only [List.length_drop, List.length_take]; omega)) (fun v' => (by repeat' constructor)) (fun u$N hu$N => ?_)", "WL.ap (T := Ty) (i := 1) rfl rfl rfl rfl rfl rfl rfl rfl (by first | exact .ro (by assumption) | exact .ro (ROs.wide (by assumption)) | exact .eqJ 0 rfl (by assumption) | exact .own 0 rfl | exact .own 1 rfl | exact .own 2 rfl | exact .own 3 rfl | exact .own 4 rfl | exact .own 5 rfl) (by first | assumption | exact ROs.slm (by assumption)) (by assumption) (by assumption) (by assumption) (by first | omega | (simp; omega) | (simp only [List.length_drop, List.length_take]; omega)) (by unfold maxLen; first | omega | (simp only [List.length_drop, List.length_take]; omega)) (fun v' => (by repeat' constructor)) (fun u$N hu$N => ?_)", "WL.ap (T := Ty) (i := 2) rfl rfl rfl rfl rfl rfl rfl rfl (by first | exact .ro (by assumption) | exact .ro (ROs.wide (by assumption)) | exact .eqJ 0 rfl (by assumption) | exact .own 0 rfl | exact .own 1 rfl | exact .own 2 rfl | exact .own 3 rfl | exact .own 4 rfl | exact .own 5 rfl) (by first | assumption | exact ROs.slm (by assumption)) (by assumption) (by assumption) (by assumption) (by first | omega | (simp; omega) | (simp only [List.length_drop, List.length_take]; omega)) (by unfold maxLen; first | omega | (simp only [List.length_drop, List.length_take]; omega)) (fun v' => (by repeat' constructor)) (fun u$N hu$N => ?_)", "WL.ap (T := Ty) (i := 3) rfl rfl rfl rfl rfl rfl rfl rfl (by first | exact .ro (by assumption) | exact .ro (ROs.wide (by assumption)) | exact .eqJ 0 rfl (by assumption) | exact .own 0 rfl | exact .own 1 rfl | exact .own 2 rfl | exact .own 3 rfl | exact .own 4 rfl | exact .own 5 rfl) (by first | assumption | exact ROs.slm (by assumption)) (by assumption) (by assumption) (by assumption) (by first | omega | (simp; omega) | (simp only [List.length_drop, List.length_take]; omega)) (by unfold maxLen; first | omega | (simp only [List.length_drop, List.length_take]; omega)) (fun v' => (by repeat' constructor)) (fun u$N hu$N => ?_)", "WL.ap (T := Ty) (i := 4) rfl rfl rfl rfl rfl rfl rfl rfl (by first | exact .ro (by assumption) | exact .ro (ROs.wide (by assumption)) | exact .eqJ 0 rfl (by assumption) | exact .own 0 rfl | exact .own 1 rfl | exact .own 2 rfl | exact .own 3 rfl | exact .own 4 rfl | exact .own 5 rfl) (by first | assumption | exact ROs.slm (by assumption)) (by assumption) (by assumption) (by assumption) (by first | omega | (simp; omega) | (simp only [List.length_drop, List.length_take]; omega)) (by unfold maxLen; first | omega | (simp only [List.length_drop, List.length_take]; omega)) (fun v' => (by repeat' constructor)) (fun u$N hu$N => ?_)", "WL.ap (T := Ty) (i := 5) rfl rfl rfl rfl rfl rfl rfl rfl (by first | exact .ro (by assumption) | exact .ro (ROs.wide (by assumption)) | exact .eqJ 0 rfl (by assumption) | exact .own 0 rfl | exact .own 1 rfl | exact .own 2 rfl | exact .own 3 rfl | exact .own 4 rfl | exact .own 5 rfl) (by first | assumption | exact ROs.slm (by assumption)) (by assumption) (by assumption) (by assumption) (by first | omega | (simp; omega) | (simp only [List.length_drop, List.length_take]; omega)) (by unfold maxLen; first | omega | (simp only [List.length_drop, List.length_take]; omega)) (fun v' => (by repeat' constructor)) (fun u$N hu$N => ?_)", "WL.ap (T := Ty) (i := 6) rfl rfl rfl rfl rfl rfl rfl rfl (by first | exact .ro (by assumption) | exact .ro (ROs.wide (by assumption)) | exact .eqJ 0 rfl (by assumption) | exact .own 0 rfl | exact .own 1 rfl | exact .own 2 rfl | exact .own 3 rfl | exact .own 4 rfl | exact .own 5 rfl) (by first | assumption | exact ROs.slm (by assumption)) (by assumption) (by assumption) (by assumption) (by first | omega | (simp; omega) | (simp only [List.length_drop, List.length_take]; omega)) (by unfold maxLen; first | omega | (simp only [List.length_drop, List.length_take]; omega)) (fun v' => (by repeat' constructor)) (fun u$N hu$N => ?_)"]
  | "makeSlice" => ["WL.mkM (f := ucell) (T := Ty) rfl rfl rfl (by assumption) rfl rfl rfl (by first | omega | (simp; omega) | (simp only [List.length_drop, List.length_take]; omega)) (by first | omega | (simp; omega) | (simp only [List.length_drop, List.length_take]; omega)) (fun u$N hu$N => ?_)", "WL.mkM (f := bcell) (T := Ty) rfl rfl rfl (by assumption) rfl rfl rfl (by first | omega | (simp; omega) | (simp only [List.length_drop, List.length_take]; omega)) (by first | omega | (simp; omega) | (simp only [List.length_drop, List.length_take]; omega)) (fun u$N hu$N => ?_)", "WL.mkM (f := Value.int .i64) (T := Ty) rfl rfl rfl (by assumption) rfl rfl rfl (by first | omega | (simp; omega) | (simp only [List.length_drop, List.length_take]; omega)) (by first | omega | (simp; omega) | (simp only [List.length_drop, List.length_take]; omega)) (fun u$N hu$N => ?_)"]
  | "c.min" => ["WL.mn rfl rfl rfl ?_", "WL.mn3 rfl rfl rfl rfl ?_"]
  | "c.max" => ["WL.mx rfl rfl rfl ?_"]
  | "w.region" => ["W.region ?_"]
  | "w.seq" => ["W.seq ?_"]
  | "w.skip" => ["W.skip ?_"]
  | "w.block" => ["W.block ?_"]
  | "w.exit" => ["W.exit rfl ?_"]
  | "i.inBlock" => ["W.inBlock ?_"]
  | "w.cond" => ["W.condT rfl ?_", "W.condF rfl ?_", "W.condpT rfl (by omega) ?_", "W.condpF rfl (by omega) ?_", "W.condpT rfl (by assumption) ?_", "W.condpF rfl (by assumption) ?_", "W.condpT rfl (by decide +kernel) ?_", "W.condpF rfl (by decide +kernel) ?_"]
  | "lookup" => ["WL.luR (T := Ty) rfl rfl rfl rfl rfl rfl rfl (by first | assumption | exact In.wide (by assumption)) (by first | rw [‹kget _ _ = some _›] | rw [‹kget _ _ = none›]) ?_", "WL.luO (T := Ty) (j := 0) rfl rfl rfl rfl rfl rfl rfl rfl (by first | rw [‹kget _ _ = some _›] | rw [‹kget _ _ = none›]) ?_", "WL.luO (T := Ty) (j := 1) rfl rfl rfl rfl rfl rfl rfl rfl (by first | rw [‹kget _ _ = some _›] | rw [‹kget _ _ = none›]) ?_", "WL.luO (T := Ty) (j := 2) rfl rfl rfl rfl rfl rfl rfl rfl (by first | rw [‹kget _ _ = some _›] | rw [‹kget _ _ = none›]) ?_", "WL.luO (T := Ty) (j := 3) rfl rfl rfl rfl rfl rfl rfl rfl (by first | rw [‹kget _ _ = some _›] | rw [‹kget _ _ = none›]) ?_", "WL.luO (T := Ty) (j := 4) rfl rfl rfl rfl rfl rfl rfl rfl (by first | rw [‹kget _ _ = some _›] | rw [‹kget _ _ = none›]) ?_", "WL.luO (T := Ty) (j := 5) rfl rfl rfl rfl rfl rfl rfl rfl (by first | rw [‹kget _ _ = some _›] | rw [‹kget _ _ = none›]) ?_", "WL.luQR (T := Ty) rfl rfl rfl rfl (by assumption) rfl (by first | assumption | exact In.wide (by assumption)) (by first | rw [‹qget _ _ = some _›] | rw [‹qget _ _ = none›]) ?_", "WL.luQO (T := Ty) (j := 0) rfl rfl rfl rfl (by assumption) rfl rfl (by first | rw [‹qget _ _ = some _›] | rw [‹qget _ _ = none›]) ?_", "WL.luQO (T := Ty) (j := 1) rfl rfl rfl rfl (by assumption) rfl rfl (by first | rw [‹qget _ _ = some _›] | rw [‹qget _ _ = none›]) ?_", "WL.luQO (T := Ty) (j := 2) rfl rfl rfl rfl (by assumption) rfl rfl (by first | rw [‹qget _ _ = some _›] | rw [‹qget _ _ = none›]) ?_", "WL.luQO (T := Ty) (j := 3) rfl rfl rfl rfl (by assumption) rfl rfl (by first | rw [‹qget _ _ = some _›] | rw [‹qget _ _ = none›]) ?_", "WL.luQO (T := Ty) (j := 4) rfl rfl rfl rfl (by assumption) rfl rfl (by first | rw [‹qget _ _ = some _›] | rw [‹qget _ _ = none›]) ?_", "WL.luQO (T := Ty) (j := 5) rfl rfl rfl rfl (by assumption) rfl rfl (by first | rw [‹qget _ _ = some _›] | rw [‹qget _ _ = none›]) ?_", "WL.luQO (T := Ty) (j := 6) rfl rfl rfl rfl (by assumption) rfl rfl (by first | rw [‹qget _ _ = some _›] | rw [‹qget _ _ = none›]) ?_", "WL.luQO (T := Ty) (j := 7) rfl rfl rfl rfl (by assumption) rfl rfl (by first | rw [‹qget _ _ = some _›] | rw [‹qget _ _ = none›]) ?_", "WL.luQO (T := Ty) (j := 8) rfl rfl rfl rfl (by assumption) rfl rfl (by first | rw [‹qget _ _ = some _›] | rw [‹qget _ _ = none›]) ?_", "WL.luQO (T := Ty) (j := 0) rfl rfl rfl rfl (by assumption) rfl rfl (lookS (by assumption)) ?_", "WL.luQO (T := Ty) (j := 1) rfl rfl rfl rfl (by assumption) rfl rfl (lookS (by assumption)) ?_", "WL.luQO (T := Ty) (j := 2) rfl rfl rfl rfl (by assumption) rfl rfl (lookS (by assumption)) ?_", "WL.luQO (T := Ty) (j := 3) rfl rfl rfl rfl (by assumption) rfl rfl (lookS (by assumption)) ?_", "WL.luQO (T := Ty) (j := 4) rfl rfl rfl rfl (by assumption) rfl rfl (lookS (by assumption)) ?_", "WL.luQO (T := Ty) (j := 5) rfl rfl rfl rfl (by assumption) rfl rfl (lookS (by assumption)) ?_", "WL.luQO (T := Ty) (j := 6) rfl rfl rfl rfl (by assumption) rfl rfl (lookS (by assumption)) ?_", "WL.luQO (T := Ty) (j := 7) rfl rfl rfl rfl (by assumption) rfl rfl (lookS (by assumption)) ?_", "WL.luQO (T := Ty) (j := 8) rfl rfl rfl rfl (by assumption) rfl rfl (lookS (by assumption)) ?_"]
  | "mapUpdate" => ["WL.muO (T := Ty) (j := 0) rfl rfl rfl rfl rfl rfl rfl (by assumption) (by repeat' constructor) ?_", "WL.muO (T := Ty) (j := 1) rfl rfl rfl rfl rfl rfl rfl (by assumption) (by repeat' constructor) ?_", "WL.muO (T := Ty) (j := 2) rfl rfl rfl rfl rfl rfl rfl (by assumption) (by repeat' constructor) ?_", "WL.muO (T := Ty) (j := 3) rfl rfl rfl rfl rfl rfl rfl (by assumption) (by repeat' constructor) ?_", "WL.muO (T := Ty) (j := 4) rfl rfl rfl rfl rfl rfl rfl (by assumption) (by repeat' constructor) ?_", "WL.muO (T := Ty) (j := 5) rfl rfl rfl rfl rfl rfl rfl (by assumption) (by repeat' constructor) ?_", "WL.muQO (T := Ty) (j := 0) rfl rfl rfl rfl (by assumption) rfl (by first | assumption | rfl) (by repeat' constructor) ?_", "WL.muQO (T := Ty) (j := 1) rfl rfl rfl rfl (by assumption) rfl (by first | assumption | rfl) (by repeat' constructor) ?_", "WL.muQO (T := Ty) (j := 2) rfl rfl rfl rfl (by assumption) rfl (by first | assumption | rfl) (by repeat' constructor) ?_", "WL.muQO (T := Ty) (j := 3) rfl rfl rfl rfl (by assumption) rfl (by first | assumption | rfl) (by repeat' constructor) ?_", "WL.muQO (T := Ty) (j := 4) rfl rfl rfl rfl (by assumption) rfl (by first | assumption | rfl) (by repeat' constructor) ?_", "WL.muQO (T := Ty) (j := 5) rfl rfl rfl rfl (by assumption) rfl (by first | assumption | rfl) (by repeat' constructor) ?_", "WL.muQO (T := Ty) (j := 6) rfl rfl rfl rfl (by assumption) rfl (by first | assumption | rfl) (by repeat' constructor) ?_", "WL.muQO (T := Ty) (j := 7) rfl rfl rfl rfl (by assumption) rfl (by first | assumption | rfl) (by repeat' constructor) ?_", "WL.muQO (T := Ty) (j := 8) rfl rfl rfl rfl (by assumption) rfl (by first | assumption | rfl) (by repeat' constructor) ?_"]
  | "c.delete" => ["WL.delO (T := Ty) (j := 0) rfl rfl rfl rfl rfl rfl (by assumption) (by repeat' constructor) ?_", "WL.delO (T := Ty) (j := 1) rfl rfl rfl rfl rfl rfl (by assumption) (by repeat' constructor) ?_", "WL.delO (T := Ty) (j := 2) rfl rfl rfl rfl rfl rfl (by assumption) (by repeat' constructor) ?_", "WL.delO (T := Ty) (j := 3) rfl rfl rfl rfl rfl rfl (by assumption) (by repeat' constructor) ?_", "WL.delO (T := Ty) (j := 4) rfl rfl rfl rfl rfl rfl (by assumption) (by repeat' constructor) ?_", "WL.delO (T := Ty) (j := 5) rfl rfl rfl rfl rfl rfl (by assumption) (by repeat' constructor) ?_", "WL.delQ (T := Ty) (j := 0) rfl rfl rfl (by assumption) rfl (by first | assumption | rfl) (by repeat' constructor) ?_", "WL.delQ (T := Ty) (j := 1) rfl rfl rfl (by assumption) rfl (by first | assumption | rfl) (by repeat' constructor) ?_", "WL.delQ (T := Ty) (j := 2) rfl rfl rfl (by assumption) rfl (by first | assumption | rfl) (by repeat' constructor) ?_", "WL.delQ (T := Ty) (j := 3) rfl rfl rfl (by assumption) rfl (by first | assumption | rfl) (by repeat' constructor) ?_", "WL.delQ (T := Ty) (j := 4) rfl rfl rfl (by assumption) rfl (by first | assumption | rfl) (by repeat' constructor) ?_", "WL.delQ (T := Ty) (j := 5) rfl rfl rfl (by assumption) rfl (by first | assumption | rfl) (by repeat' constructor) ?_"]
  | "insert" => ["WL.inQO (T := Ty) (j := 0) rfl rfl rfl rfl (by assumption) rfl (by first | assumption | rfl) (by repeat' constructor) ?_", "WL.inQO (T := Ty) (j := 1) rfl rfl rfl rfl (by assumption) rfl (by first | assumption | rfl) (by repeat' constructor) ?_", "WL.inQO (T := Ty) (j := 2) rfl rfl rfl rfl (by assumption) rfl (by first | assumption | rfl) (by repeat' constructor) ?_", "WL.inQO (T := Ty) (j := 3) rfl rfl rfl rfl (by assumption) rfl (by first | assumption | rfl) (by repeat' constructor) ?_", "WL.inQO (T := Ty) (j := 4) rfl rfl rfl rfl (by assumption) rfl (by first | assumption | rfl) (by repeat' constructor) ?_", "WL.inQO (T := Ty) (j := 5) rfl rfl rfl rfl (by assumption) rfl (by first | assumption | rfl) (by repeat' constructor) ?_"]
  | _ => []
def tryS (s : String) : TacticM Bool := do
  match Parser.runParserCategory (← getEnv) `tactic s with
  | .error e => throwError "{s}: {e}"
  | .ok stx =>
    let st ← saveState
    let errs : TacticM Nat := do return ((← getThe Core.State).messages.toList.filter fun m => m.severity == .error).length
    let n0 ← errs
    try
      Tactic.withoutRecover (evalTactic stx)
      if (← errs) > n0 then
        st.restore
        return false
      return true
    catch _ =>
      st.restore
      return false
def goalT : TacticM Lean.Expr := do
  let t ← instantiateMVars (← (← getMainGoal).getType)
  return t.consumeMData
def intOf (e : Lean.Expr) : Option Int := e.int?
/-- how far a shift goes, where that is written -/
def shiftLit (o : Lean.Expr) : Option Nat :=
  let y := (o.getArg! 1).getArg! 3
  if y.getAppFn.constName?.map (·.getString!) == some "const" then
    match (y.getArg! 0).getAppArgs with
    | #[_, n] => match n.int? with | some (Int.ofNat n) => some n | _ => none
    | _ => none
  else none
def headOff : TacticM (Option Nat) := do
  let t ← goalT
  let env := t.getArg! 7
  unless env.isAppOf ``List.cons do return none
  let v := (env.getArg! 1).getArg! 3
  if v.getAppFn.constName?.map (·.getString!) == some "eptr" then
    let k := v.getArg! 1
    if k.isAppOf ``HAdd.hAdd then return natOf (k.getArg! 5) else return none
  else
    let a := (v.getArg! 0).getArg! 1
    return natOf (a.getArg! 1)
/-- the operations of an open region that comes next -/
def openOps (t : Lean.Expr) : Option (List Lean.Expr) :=
  let k := t.getArg! 4
  if k.isAppOf ``List.cons then
    let c := (k.getArg! 1).getArg! 0
    if litName c == "region" && (c.getArg! 2).isConstOf ``Bool.true then some (opsOf (c.getArg! 1)) else none
  else none
/-- from which operation on the order is told -/
def sinkN (es : Array (List Nat)) : Nat := Id.run do
  let m := es.size
  for n in List.range (m + 1) do
    let a := (List.range m).all fun j => j < n || ((List.range n).all fun i => (es[j]!).contains i)
    let b := (List.range m).all fun j => j < n || ((List.range m).all fun k => k ≤ j || (es[k]!).any fun e => decide (j ≤ e) && e != k)
    if a && b then return n
  return m
def freshNo : TacticM Nat := do
  let mut m := 0
  for d in (← getLCtx) do
    let s := d.userName.toString
    if s.startsWith "σ" then
      match ((s.drop 1).toString).toNat? with | some k => m := max m (k + 1) | none => pure ()
  return m
partial def listOf (e : Lean.Expr) : MetaM (List Lean.Expr) := do
  match e.listLit? with
  | some (_, l) => return l
  | none =>
    let e ← whnf e
    if e.isAppOf ``List.cons then return e.getArg! 1 :: (← listOf (e.getArg! 2)) else return []
def headNm (e : Lean.Expr) : String := litName e
def partFact (p : Lean.Expr) (i : Nat) (nm hs ds : String) : Option String :=
  match headNm p with
  | "box" => some s!"have {nm} := rb_at {i} rfl {hs} {ds}"
  | "Buf" => some s!"have {nm} := ros_at {i} rfl {hs} {ds}"
  | "eqh" => none
  | _ => some s!"have {nm} := in_at {i} rfl {hs} {ds}"
/-- the name of what is known of an open region's parts -/
def heldName (σ : Lean.Expr) : TacticM (Option String) := do
  let mut r := none
  for d in (← getLCtx) do
    let t ← instantiateMVars d.type
    if litName t == "sepl" && t.getAppNumArgs == 2 && t.getArg! 1 == σ then r := some d.userName.toString
  return r
/-- what is known of what is read: the names -/
def readNames (σ : Lean.Expr) : TacticM (List String) := do
  let mut r := []
  for d in (← getLCtx) do
    let t ← instantiateMVars d.type
    if ["RB", "ROs", "In"].contains (litName t) then
      let a := t.getArg! 0
      if litName a == "join" && a.getArg! 1 == σ && !d.userName.hasMacroScopes then r := r ++ [d.userName.toString]
  return r
/-- how many parts were given names by calls -/
def callNo : TacticM Nat := do
  let mut m := 0
  for d in (← getLCtx) do
    let s := d.userName.toString
    if s.startsWith "u" || s.startsWith "b" then
      match ((s.drop 1).toString).toNat? with | some k => m := max m (k + 1) | none => pure ()
  return m
def fnOfCall (o : Lean.Expr) : Option Nat :=
  let ce := ((o.getArg! 1).getArg! 0).getArg! 0
  if litName ce == "value" && litName (ce.getArg! 0) == "func" then natOf ((ce.getArg! 0).getArg! 0) else none
def readCalls : IO (List (Nat × String)) := do
  let s ← try IO.FS.readFile "/tmp/calls.YtdpnpipninggeaaDoor.tsv" catch _ => pure ""
  return (s.splitOn "\n").filterMap fun r => match r.splitOn "\t" with
    | [a, b] => match a.toNat? with | some n => some (n, b) | none => none
    | _ => none
/-- the plain numbers of a row's cells, and how they are told -/
def plainCells (cs : List Lean.Expr) : MetaM (Option (String × List String)) := do
  let mut k := ""
  let mut out := #[]
  for c in cs do
    unless c.isAppOf ``Value.int do return none
    let kd := litName (c.getArg! 0)
    if k == "" then k := kd
    unless k == kd do return none
    let n := c.getArg! 1
    match n.int? with
    | some z => out := out.push (toString z)
    | none =>
      if n.isAppOf ``Nat.cast && (n.getArg! 2).isFVar then
        let nm ← (n.getArg! 2).fvarId!.getUserName
        if nm.hasMacroScopes then return none
        out := out.push (if k == "i64" then s!"({nm} : Int)" else toString nm)
      else if n.isFVar && k == "i64" then
        let nm ← n.fvarId!.getUserName
        if nm.hasMacroScopes then return none
        out := out.push (toString nm)
      else if k == "i64" then
        let s := toString (← ppExpr n)
        if s.length > 200 || (s.splitOn "\n").length > 1 then return none
        out := out.push s
      else return none
  match k with
  | "u64" => return some ("ucell", out.toList)
  | "u8" => return some ("bcell", out.toList)
  | "i64" => return some ("(Value.int .i64)", out.toList)
  | _ => return none
/-- where a store goes: what it hangs on -/
inductive Tg
  | env (n : Nat)
  | buf
  | fresh
  | any
  deriving Inhabited
def tmpOf (x : Lean.Expr) : Option Nat := if litName x == "tmp" then natOf (x.getArg! 0) else none
partial def tgOf (ops : List Lean.Expr) (x : Lean.Expr) (ix : Bool) : Tg :=
  match tmpOf x with
  | none => .any
  | some n =>
    match ops.find? (fun o => match (o.getArg! 0).getAppFn.constName? with | some ``Option.some => natOf ((o.getArg! 0).getArg! 1) == some n | _ => false) with
    | none => .env n
    | some o =>
      let op := o.getArg! 1
      match opKey o with
      | "fieldAddr" => tgOf ops (op.getArg! 1) ix
      | "indexAddr" => tgOf ops (op.getArg! 1) true
      | "nilCheck" => tgOf ops (op.getArg! 0) ix
      | "move" => tgOf ops (op.getArg! 0) ix
      | "assign" => tgOf ops (op.getArg! 0) ix
      | "load" => if ix then .buf else .any
      | "call" => if ix then .buf else .any
      | "alloc" => .fresh
      | "box" => .fresh
      | _ => .any
/-- what an append goes on with -/
partial def apOf (ops : List Lean.Expr) (x : Lean.Expr) : Tg :=
  match tmpOf x with
  | none => .fresh
  | some n =>
    match ops.find? (fun o => match (o.getArg! 0).getAppFn.constName? with | some ``Option.some => natOf ((o.getArg! 0).getArg! 1) == some n | _ => false) with
    | none => .env n
    | some o =>
      let op := o.getArg! 1
      match opKey o with
      | "move" => apOf ops (op.getArg! 0)
      | "assign" => apOf ops (op.getArg! 0)
      | "slice" => apOf ops (op.getArg! 1)
      | "buildSlice" => .fresh
      | "makeSlice" => .fresh
      | "c.append" => .fresh
      | "call" => .fresh
      | _ => .buf
/-- which parts the stores of a region turn; none: not told -/
def storeMask (env : Lean.Expr) (ops : List Lean.Expr) (n : Nat) (hs : List Lean.Expr) : TacticM (Option (List Bool)) := do
  let mut bufs := false
  let mut bs : List Lean.Expr := []
  for (o, i) in ops.zipIdx do
    if i < n && opKey o == "store" then
      match tgOf (ops.take i) ((o.getArg! 1).getArg! 1) false with
      | .any => return none
      | .buf => bufs := true
      | .fresh => pure ()
      | .env k =>
        let l ← mkAppM (`Go.Proofs ++ `YtdpnpipninggeaaDoor ++ `look) #[env, mkNatLit k]
        let r ← withTransparency .default (whnf l)
        unless r.isAppOf ``Option.some do return none
        let v := r.getArg! 1
        if litName v == "eptr" then
          bs := v.getArg! 0 :: bs
        else
          let v ← withTransparency .default (whnf v)
          unless v.isAppOf ``Value.pointer do return none
          let a ← withTransparency .default (whnf (v.getArg! 0))
          unless a.isAppOf ``Option.some do return none
          let a ← withTransparency .default (whnf (a.getArg! 1))
          bs := a.getArg! 0 :: bs
  for (o, i) in ops.zipIdx do
    if i < n && opKey o == "c.append" then
      match opsOf (((o.getArg! 1).getArg! 0).getArg! 1) with
      | x :: _ =>
        match apOf (ops.take i) x with
        | .env k =>
          let l ← mkAppM (`Go.Proofs ++ `YtdpnpipninggeaaDoor ++ `look) #[env, mkNatLit k]
          let r ← withTransparency .default (whnf l)
          if r.isAppOf ``Option.some then bs := r.getArg! 1 :: bs else bufs := true
        | .fresh => pure ()
        | _ => bufs := true
      | [] => bufs := true
  let mut out := #[]
  for p in hs do
    match headNm p with
    | "box" => out := out.push (bs.contains (p.getArg! 0))
    | "Buf" => out := out.push (bufs || bs.contains (p.getArg! 1))
    | _ => out := out.push false
  return some out.toList
/-- which part an address stands in: its place among the parts; some none: in none of them -/
def partOf (env : Lean.Expr) (x : Lean.Expr) (hs : List Lean.Expr) : TacticM (Option (Option Nat)) := do
  match tmpOf x with
  | none => return none
  | some n =>
    let l ← mkAppM (`Go.Proofs ++ `YtdpnpipninggeaaDoor ++ `look) #[env, mkNatLit n]
    let r ← withTransparency .default (whnf l)
    unless r.isAppOf ``Option.some do return none
    let v := r.getArg! 1
    if litName v == "eptr" then
      return some ((hs.findIdx? fun p => headNm p == "Buf" && p.getArg! 1 == v.getArg! 0))
    else
      let v ← withTransparency .default (whnf v)
      unless v.isAppOf ``Value.pointer do return none
      let w ← withTransparency .default (whnf (v.getArg! 0))
      unless w.isAppOf ``Option.some do return none
      let w ← withTransparency .default (whnf (w.getArg! 1))
      let b := w.getArg! 0
      return some ((hs.findIdx? fun p => (headNm p == "box" || headNm p == "RRe") && p.getArg! 0 == b))
def stepOnce : TacticM (Option String) := do
  if (← getGoals).isEmpty then return none
  let t ← (do return (← goalT)) 
  let key := nextOf t
  if t.getAppFn.constName?.map (·.getString!) == some "WD" then
    let ops := opsOf (t.getArg! 5)
    let ls := listedOf (t.getArg! 8)
    for (o, i) in ops.zipIdx do
      if !ls.contains i && pureKey (opKey o) && (edgesOf o).all (fun j => ls.contains j || j == i) then
        let s := s!"refine WD.takeL {i} rfl (by decide +kernel) ?_"
        if opKey o == "convert" && (o.getArg! 5).isAppOf ``Option.none then
          let st ← saveState
          if ← tryS s then
            for c in cands "convert" do
              let g := "refine " ++ c
              if ← tryS g then return some (s ++ "\n" ++ g)
          st.restore
        else if opKey o == "load" then
          let st ← saveState
          if ← tryS s then
            let mut out := #[s]
            let mut ok := true
            if nextOf (← goalT) == "guard" then
              let mut found := false
              for c in cands "guard" do
                if !found then
                  if ← tryS ("refine " ++ c) then
                    found := true
                    out := out.push ("refine " ++ c)
              ok := found
            if ok && nextOf (← goalT) == "load" then
              let mut found := false
              for c in cands "load" do
                if !found then
                  let c := (toString (← callNo)).intercalate (c.splitOn "$N")
                  if ← tryS ("refine " ++ c) then
                    found := true
                    out := out.push ("refine " ++ c)
              ok := found
            if ok then return some ("\n".intercalate out.toList)
          st.restore
        else if ← tryS s then return some s
    for (o, i) in ops.zipIdx do
      if !ls.contains i && !pureKey (opKey o) && !(o.getArg! 5).isAppOf ``Option.none && (edgesOf o).all (fun j => ls.contains j || j == i) then
        let st ← saveState
        let s := s!"refine WD.takeL {i} rfl (by decide +kernel) ?_"
        if ← tryS s then
          for g in ["refine WL.gdN rfl rfl rfl rfl rfl rfl ?_", "refine WL.gdU rfl rfl rfl rfl rfl ?_", "refine WL.gdTn rfl rfl rfl rfl rfl (by omega) ?_", "refine WL.gdFn rfl rfl rfl rfl rfl (by omega) ?_"] do
            if ← tryS g then return some (s ++ "\n" ++ g)
        st.restore
    let nn := (natOf (t.getArg! 6)).getD 0
    match ← heldName (t.getArg! 3) with
    | none => return none
    | some hs =>
      let useE := (← getLCtx).findFromUserName? `useEqh |>.isSome
      let hs0 := hs
      let hs := if useE then "(eqh_self _)" else hs
      if ls.length == ops.length then
        let s := s!"refine WD.doneF {hs} (by decide +kernel) (by repeat' constructor) ?_"
        if ← tryS s then return some s else return none
      if (List.range nn).all fun i => ls.contains i then
        let s := s!"refine WD.lastG {hs} (by decide +kernel) (by repeat' constructor) rfl (by repeat' constructor) ?_"
        if ← tryS s then return some s else return none
      let rs := ops.zipIdx.filter fun (o, i) => !ls.contains i && (edgesOf o).all (fun j => ls.contains j || j == i)
      match rs with
      | [(o, i)] =>
        let s := s!"refine WD.oneL {i} rfl (by decide +kernel) ?_"
        if ← tryS s then return some s
        return none
      | _ =>
        -- nobody turns anything from here on: what there is is read
        let cs ← readCalls
        let muts := (ops.zipIdx.filter fun (o, i) => !ls.contains i && i < nn && (opKey o == "store" || opKey o == "c.append" || (opKey o == "call" && (match fnOfCall o with | some f => (cs.filter fun (g, s) => g == f && s.startsWith "MUT ").length > 0 | none => true)))).length
        let parts ← listOf (t.getArg! 10)
        if muts == 0 && parts.length > 0 then
          let σ := t.getArg! 3
          let k ← freshNo
          let names ← readNames σ
          let s := s!"refine WD.growH {hs0} (fun σ{k} hσ{k} dσ{k} mσ{k} => ?_)"
          if ← tryS s then
            let mut out := #[s]
            for x in names do
              let f := s!"have {x} := {x}.mono mσ{k}"
              if ← tryS f then out := out.push f
            match partFact (parts[0]!) 0 s!"fσ{k}_0" s!"hσ{k}" s!"dσ{k}" with
            | some f => if ← tryS f then out := out.push f
            | none => pure ()
            return some ("\n".intercalate out.toList)
        return none
  if key == "w.region" then
    let c := ((t.getArg! 4).getArg! 1).getArg! 0
    let le := c.getArg! 1
    let le := if le.isAppOf ``List.toArray then le.appArg! else le
    if le.isAppOf ``List.append then
      let s := "refine W.regionL (by repeat' constructor) ?_"
      if ← tryS s then return some s
    match openOps t with
    | some ops =>
      let es := (ops.map edgesOf).toArray
      let n := sinkN es
      let cs ← readCalls
      let bad := (ops.zipIdx.filter fun (o, i) => i < n && opKey o == "store").length > 0
      let k ← freshNo
      let muts := (ops.zipIdx.filterMap fun (o, i) => if i < n && opKey o == "call" then fnOfCall o else none).flatMap fun f => cs.filterMap fun (g, s) => if g == f && s.startsWith "MUT " then some ((s.drop 4).toString) else none
      let hs ← listOf (t.getArg! 6)
      let muts := if (ops.zipIdx.filter fun (o, i) => i < n && opKey o == "c.append").length > 0 then "Rw" :: muts else muts
      let muts := if (ops.zipIdx.filter fun (o, i) => i < n && (opKey o == "c.copy" || opKey o == "c.clear")).length > 0 then "Rw" :: muts else muts
      let muts := if (ops.zipIdx.filter fun (o, i) => i < n && (opKey o == "c.delete" || opKey o == "mapUpdate")).length > 0 then "Qm" :: "Mp" :: "Pm" :: muts else muts
      let app := (ops.zipIdx.filter fun (o, i) => i < n && opKey o == "c.append").length > 0
      let sm ← if bad || app then storeMask (t.getArg! 5) ops n hs else pure none
      let muts := if app && sm.isNone then "Buf" :: muts else muts
      let muts := if bad && sm.isNone then "box" :: "Buf" :: muts else muts
      let mask := hs.map fun p => muts.contains (headNm p)
      let mask := match sm with | some s => (mask.zip s).map fun (x, y) => x || y | none => mask
      let s := if mask.contains true then s!"refine W.drawP {n} {mask} rfl (by repeat' constructor) (by repeat' constructor) (fun σ{k} hσ{k} dσ{k} => ?_)" else s!"refine W.drawA {n} rfl (fun σ{k} hσ{k} dσ{k} => ?_)"
      unless ← tryS s do return none
      let mut out := #[s]
      if n > 0 then
        for (p, i) in ((hs.zip mask).filterMap fun (p, b) => if b then none else some p).zipIdx do
          match partFact p i s!"fσ{k}_{i}" s!"hσ{k}" s!"dσ{k}" with
          | some f => if ← tryS f then out := out.push f
          | none => pure ()
      return some ("\n".intercalate out.toList)
    | none => pure ()
  if key == "call" then
    let o := (t.getArg! 6).getArg! 1
    match fnOfCall o with
    | none => return none
    | some f =>
      for (g, s) in ← readCalls do
        if g == f && !s.startsWith "MUT " then
          for j in (if (s.splitOn "$J").length > 1 then List.range 8 else [0]) do
            let st ← saveState
            let mut ok := true
            let s1 := (toString j).intercalate (s.splitOn "$J")
            let parts := ((toString (← callNo)).intercalate (s1.splitOn "$N")).splitOn " ;; "
            for x in parts do
              if ok then ok := ← tryS x
            if ok then return some ("\n".intercalate parts)
            st.restore
      return none
  if key == "nil" && litName (t.getArg! 4) == "opX" then
    let hs ← listOf (t.getArg! 8)
    -- what is appended to yet stays one's own
    let ls := listedOf ((t.getArg! 4).getArg! 7)
    let d := match ← listOf (t.getArg! 7) with | e :: _ => natOf (e.getArg! 2) | [] => none
    let app := ((opsOf (t.getArg! 5)).zipIdx.filter fun (o, i) => !ls.contains i && opKey o == "c.append" && (match opsOf (((o.getArg! 1).getArg! 0).getArg! 1) with | x :: _ => litName x == "tmp" && natOf (x.getArg! 0) == d && d.isSome | [] => false)).length
    let cs ← readCalls
    let took := ((opsOf (t.getArg! 5)).zipIdx.filter fun (o, i) => !ls.contains i && opKey o == "call" && (match fnOfCall o with | some f => (cs.filter fun (g, s) => g == f && s == "MUT built").length > 0 | none => false) && ((opsOf (((o.getArg! 1).getArg! 0).getArg! 1)).any fun x => litName x == "tmp" && natOf (x.getArg! 0) == d && d.isSome)).length
    let sto := ((opsOf (t.getArg! 5)).zipIdx.filter fun (o, i) => !ls.contains i && opKey o == "store" && (match tmpOf ((o.getArg! 1).getArg! 1) with | some n => some n == d | none => false)).length
    if hs.length ≥ 3 && headNm (hs[0]!) != "eqh" && headNm (hs[1]!) != "eqh" && headNm (hs[2]!) == "eqh" then
      if ← tryS "refine WL.nilSS ?_" then return some "refine WL.nilSS ?_"
    if app + took + sto > 0 then
      if ← tryS "refine WL.nilS ?_" then return some "refine WL.nilS ?_"
    if hs.length ≥ 2 && headNm (hs[0]!) != "eqh" && headNm (hs[1]!) == "eqh" then
      let σ := (hs[1]!).getArg! 0
      match ← heldName σ with
      | none => pure ()
      | some h =>
        let k ← freshNo
        let names ← readNames σ
        let s := s!"refine WL.nilH {h} (fun σ{k} hσ{k} dσ{k} mσ{k} => ?_)"
        if ← tryS s then
          let mut out := #[s]
          for x in names do
            let f := s!"have {x} := {x}.mono mσ{k}"
            if ← tryS f then out := out.push f
          match partFact (hs[0]!) 0 s!"fσ{k}_0" s!"hσ{k}" s!"dσ{k}" with
          | some f => if ← tryS f then out := out.push f
          | none => pure ()
          return some ("\n".intercalate out.toList)
    if headNm (hs[0]!) != "eqh" then
      match hs.findIdx? (fun p => headNm p == "eqh") with
      | some j =>
        if j > 1 then
          let st ← saveState
          let s1 := s!"refine WL.bring {j} rfl (by repeat' constructor) ?_"
          if ← tryS s1 then
            if ← tryS "refine WL.nilE ?_" then return some (s1 ++ "\nrefine WL.nilE ?_")
          st.restore
      | none => pure ()
  if key == "fieldAddr" then
    for r in ["faN", "faEN"] do
      if ← tryS s!"refine WL.{r} (T := Ty) rfl rfl rfl rfl rfl rfl (by vnat) ?_" then
        match ← headOff with
        | some n => return some s!"refine WL.{r} (T := Ty) (off' := {n}) rfl rfl rfl rfl rfl rfl rfl ?_"
        | none => return some s!"refine WL.{r} (T := Ty) rfl rfl rfl rfl rfl rfl rfl ?_"
    return none
  if key == "indexAddr" then
    let s := "refine WL.ix (T := Ty) rfl rfl rfl (by assumption) rfl rfl (by omega) (by first | omega | decide +kernel) ?_"
    if ← tryS s then return some s
    let st ← saveState
    if ← tryS "refine WL.ixX (T := Ty) rfl rfl rfl rfl rfl (by omega) (by omega) (by vnat) ?_" then
      match ← headOff with
      | some n => return some s!"refine WL.ixX (T := Ty) (o' := {n}) rfl rfl rfl rfl rfl (by omega) (by omega) rfl ?_"
      | none => st.restore
    let s := "refine WL.ixA (T := Ty) rfl rfl rfl rfl rfl (by omega) (by first | omega | decide +kernel) ?_"
    if ← tryS s then return some s
    return none
  if key == "b.shr" || key == "b.shl" then
    let o := (t.getArg! 6).getArg! 1
    let ends := if key == "b.shr" then [""] else ["(wrap_i64 ⟨by omega, by omega⟩) ", "(wrap_u64 ⟨by omega, by omega⟩) ", "(wrap_u32 ⟨by omega, by omega⟩) ", "(wrap_u8 ⟨by omega, by omega⟩) ", "rfl "]
    let r := if key == "b.shr" then "shrS" else "shlS"
    let cs := match shiftLit o with
      | some n => [s!"(c := {2 ^ (min n 64)}) rfl rfl rfl (by omega) (by decide)", "rfl rfl rfl (by omega) rfl"]
      | none => ["rfl rfl rfl (by omega) rfl"]
    for c in cs do
      for e in ends do
        let s := s!"refine WL.{r} {c} {e}?_"
        if ← tryS s then return some s
    return none
  let mut cl := cands key
  if key == "load" || key == "store" then
    let o := (t.getArg! 6).getArg! 1
    let hs ← listOf (t.getArg! 8)
    match ← partOf (t.getArg! 7) ((o.getArg! 1).getArg! 1) hs with
    | some (some j) => cl := (cl.filter fun c => (c.splitOn "(j := 0)").length > 1).map fun c => s!"(j := {j})".intercalate (c.splitOn "(j := 0)")
    | some none => cl := cl.filter fun c => (c.splitOn "(j := ").length == 1
    | none => pure ()
  for c in cl do
    let s := (toString (← callNo)).intercalate (("refine " ++ c).splitOn "$N")
    if ← tryS s then
      if key == "buildSlice" then
        let t ← goalT
        let hs ← listOf (t.getArg! 8)
        match hs with
        | p :: _ =>
          if headNm p == "Buf" && natOf (p.getArg! 0) == some 1 then
            let cs ← listOf (p.getArg! 2)
            if cs.length > 1 then
              match ← plainCells cs with
              | some (f, ns) =>
                let g := s!"refine WL.reC {f} [{", ".intercalate ns}] rfl ?_"
                if ← tryS g then return some (s ++ "\n" ++ g)
              | none => pure ()
        | [] => pure ()
      return some s
  return none
/-- steps until there is a choice to make -/
def steps : TacticM (List String) := do
  let mut log : Array String := #[]
  let mut go := true
  while go do
    if (← getGoals).isEmpty then go := false
    else
      let r ← withMainContext stepOnce
      match r with
      | some s => for x in s.splitOn "\n" do log := log.push x
      | none => go := false
  return log.toList
def tell (l : List String) : TacticM Unit := do
  let pos := (← getFileMap).toPosition ((← getRef).getPos?.getD 0)
  logInfo m!"VRUN {pos.line}\n{"\n".intercalate (l.map ("|" ++ ·))}"
/-- steps to the end of the region under way -/
def stepsReg : TacticM (List String) := do
  let mut log : Array String := #[]
  let mut go := true
  while go do
    if (← getGoals).isEmpty then go := false
    else
      let t ← withMainContext goalT
      if t.getAppFn.constName?.map (·.getString!) == some "W" then go := false
      else
        match ← withMainContext stepOnce with
        | some s => for x in s.splitOn "\n" do log := log.push x
        | none => go := false
  return log.toList
/-- steps, up to one that leaves a block -/
def stepsExit : TacticM (List String) := do
  let mut log : Array String := #[]
  let mut go := true
  while go do
    if (← getGoals).isEmpty then go := false
    else
      let t ← withMainContext goalT
      let fin := nextOf t == "w.exit"
      match ← withMainContext stepOnce with
      | some s => for x in s.splitOn "\n" do log := log.push x
      | none => go := false
      if fin then go := false
  return log.toList
/-- steps, up to the beginning of the next open region -/
def stepsDraw : TacticM (List String) := do
  let mut log : Array String := #[]
  let mut go := true
  while go do
    if (← getGoals).isEmpty then go := false
    else
      match ← withMainContext stepOnce with
      | some s =>
        for x in s.splitOn "\n" do log := log.push x
        if s.startsWith "refine W.draw" then go := false
      | none => go := false
  return log.toList
/-- steps, up to an open region -/
def stepsOpen : TacticM (List String) := do
  let mut log : Array String := #[]
  let mut go := true
  while go do
    if (← getGoals).isEmpty then go := false
    else
      let t ← withMainContext goalT
      if nextOf t == "w.region" && (openOps t).isSome then go := false
      else
        match ← withMainContext stepOnce with
        | some s => for x in s.splitOn "\n" do log := log.push x
        | none => go := false
  return log.toList
/-- steps, up to one that comes to the end of a block -/
def stepsBlk : TacticM (List String) := do
  let mut log : Array String := #[]
  let mut go := true
  while go do
    if (← getGoals).isEmpty then go := false
    else
      let t ← withMainContext goalT
      let fin := nextOf t == "i.inBlock"
      match ← withMainContext stepOnce with
      | some s => for x in s.splitOn "\n" do log := log.push x
      | none => go := false
      if fin then go := false
  return log.toList
elab "vblk" : tactic => do tell (← stepsBlk)
elab "vopen" : tactic => do tell (← stepsOpen)
elab "vdraw" : tactic => do tell (← stepsDraw)
elab "vexit" : tactic => do tell (← stepsExit)
elab "vstep" n:num : tactic => do
  let mut log : Array String := #[]
  for _ in List.range n.getNat do
    match ← withMainContext stepOnce with
    | some s => for x in s.splitOn "\n" do log := log.push x
    | none => pure ()
  tell log.toList
elab "vrun" : tactic => do tell (← steps)
elab "vreg" : tactic => do tell (← stepsReg)
def bullet (l : List String) : List String := match l with
  | [] => ["· skip"]
  | x :: r => ("· " ++ x) :: r.map ("  " ++ ·)
/-- an open region: whichever operation may come up next, the steps for it as they are told -/
partial def orderLoop (snips : List (String × List String)) : TacticM (List String) := do
  let l ← steps
  if (← getGoals).isEmpty then return l
  let t ← goalT
  let snip (k : String) : TacticM (List String) := do
    match snips.find? (·.1 == k) with
    | none => throwError "vorder: nothing is told for {k}"
    | some (_, ts) =>
      for s in ts do
        unless ← tryS s do
          match Parser.runParserCategory (← getEnv) `tactic s with
          | .error e => throwError "{s}: {e}"
          | .ok stx =>
            try Tactic.withoutRecover (evalTactic stx)
            catch ex => throwError "vorder {k}: {ex.toMessageData}\n{s}\nat {nextOf (← goalT)}"
      return ts
  unless t.getAppFn.constName?.map (·.getString!) == some "WD" do return l
  let ls := listedOf (t.getArg! 8)
  let ops := opsOf (t.getArg! 5)
  if ls.length == ops.length then
    let e ← snip "end"
    return l ++ e
  let rs := (ops.zipIdx.filter fun (o, i) => !ls.contains i && (edgesOf o).all (fun j => ls.contains j || j == i)).map (·.2)
  let one (i : Nat) : TacticM (List String) := do
    let a ← steps
    let b ← snip (toString i)
    let c ← orderLoop snips
    return a ++ b ++ c
  match rs with
  | [i] =>
    let s := s!"refine WD.oneL {i} rfl (by decide +kernel) ?_"
    unless ← tryS s do throwError "vorder: {s}"
    return l ++ [s] ++ (← one i)
  | _ =>
    let nm := match rs.length with | 2 => "twoL" | 3 => "threeL" | _ => "fourL"
    let s := s!"refine WD.{nm} {" ".intercalate (rs.map toString)} {" ".intercalate (rs.map fun _ => "rfl")} (by decide +kernel) {" ".intercalate (rs.map fun _ => "?_")}"
    unless ← tryS s do throwError "vorder: {s}"
    let gs ← getGoals
    let mut out := l ++ [s]
    let mut rest : List MVarId := []
    for (i, g) in rs.zip gs do
      setGoals [g]
      out := out ++ bullet (← one i)
      rest := rest ++ (← getGoals)
    setGoals (rest ++ gs.drop rs.length)
    return out
/-- steps as long as the region is not left -/
def stepsIn : TacticM (List String) := do
  let mut log : Array String := #[]
  let mut go := true
  while go do
    if (← getGoals).isEmpty then go := false
    else
      let t ← withMainContext goalT
      if t.getAppFn.constName?.map (·.getString!) == some "W" then go := false
      else
        match ← withMainContext stepOnce with
        | some s => for x in s.splitOn "\n" do log := log.push x
        | none => go := false
  return log.toList
partial def orderAll (leaf : List String) : TacticM (List String) := do
  let l ← stepsIn
  if (← getGoals).isEmpty then return l
  let t ← goalT
  if t.getAppFn.constName?.map (·.getString!) == some "W" then
    let mut told : Array String := #[]
    for s in leaf do
      if s == "RUN" then
        for y in ← steps do told := told.push y
      else if s == "RUX" then
        for y in ← stepsExit do told := told.push y
      else if s == "vblk" then
        for y in ← stepsBlk do told := told.push y
      else
        match Parser.runParserCategory (← getEnv) `tactic s with
        | .error e => throwError "{s}: {e}"
        | .ok stx =>
          try Tactic.withoutRecover (evalTactic stx)
          catch ex => throwError "vorder leaf: {ex.toMessageData}\n{s}"
        told := told.push s
    return l ++ told.toList
  unless t.getAppFn.constName?.map (·.getString!) == some "WD" do throwError "vorder: at {nextOf t}\n{((toString (← ppExpr (t.getArg! 8))).take 1500).toString}"
  let ls := listedOf (t.getArg! 8)
  let ops := opsOf (t.getArg! 5)
  let rs := (ops.zipIdx.filter fun (o, i) => !ls.contains i && (edgesOf o).all (fun j => ls.contains j || j == i)).map (·.2)
  match rs with
  | [] => throwError "vorder: nothing is ready"
  | [i] =>
    let s := s!"refine WD.oneL {i} rfl (by decide +kernel) ?_"
    unless ← tryS s do throwError "vorder: {s}"
    return l ++ [s] ++ (← orderAll leaf)
  | _ =>
    let nm := match rs.length with | 2 => "twoL" | 3 => "threeL" | _ => "fourL"
    let s := s!"refine WD.{nm} {" ".intercalate (rs.map toString)} {" ".intercalate (rs.map fun _ => "rfl")} (by decide +kernel) {" ".intercalate (rs.map fun _ => "?_")}"
    unless ← tryS s do throwError "vorder: {s}"
    let gs ← getGoals
    let mut out := l ++ [s]
    let mut rest : List MVarId := []
    for (i, g) in rs.zip gs do
      setGoals [g]
      out := out ++ bullet (← orderAll leaf)
      rest := rest ++ (← getGoals)
    setGoals (rest ++ gs.drop rs.length)
    return out
elab "vorder" "all" "[" ss:str "]" : tactic => do tell (← orderAll (ss.getString.splitOn ";; "))
elab "vorder" "[" ss:str,* "]" : tactic => do
  let snips := ss.getElems.toList.map fun s =>
    match s.getString.splitOn ": " with
    | k :: r => (k, (": ".intercalate r).splitOn ";; ")
    | [] => ("", [])
  tell (← orderLoop snips)
end Go.Proofs.YtdpnpipninggeaaDoor
