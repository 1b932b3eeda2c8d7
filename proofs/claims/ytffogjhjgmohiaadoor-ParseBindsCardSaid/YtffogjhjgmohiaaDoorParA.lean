/-
  lex, parse: what they compute, in plain words. Conditions: each theorem's own.
-/
import Derived.Test.YtffogjhjgmohiaaDoorTreeN
import Derived.Test.YtffogjhjgmohiaaDoorTreeP
import Derived.Test.YtffogjhjgmohiaaDoorNum
import Derived.Test.YtffogjhjgmohiaaDoorErrs
namespace Go.Proofs.YtffogjhjgmohiaaDoor
open Go.RowKit
set_option linter.unusedVariables false
set_option linter.unusedSimpArgs false

/-- A token: its kind, its text, where it begins. -/
structure Tok where
  k : Nat
  s : List UInt8
  p : Nat
deriving DecidableEq
/-! ### The lexer -/
def isNum (c : UInt8) : Bool := (decide (48 ≤ c.toNat) && decide (c.toNat ≤ 57)) || c.toNat == 46
def isWrd (c : UInt8) : Bool := (decide (65 ≤ c.toNat) && decide (c.toNat ≤ 90)) || (decide (48 ≤ c.toNat) && decide (c.toNat ≤ 57)) || c.toNat == 36 || c.toNat == 33 || c.toNat == 95
def runN (p : UInt8 → Bool) : List UInt8 → Nat
  | [] => 0
  | c :: l => if p c then runN p l + 1 else 0
/-- What a text behind its first mark says, and where it ends (q: a mark stands just ahead). -/
def textN : List UInt8 → Bool → List UInt8 → Nat → List UInt8 × Nat
  | [], q, out, i => if q then (out, i) else ([], 0)
  | c :: l, false, out, i => if c.toNat == 34 then textN l true out (i + 1) else textN l false (out ++ [c]) (i + 1)
  | c :: l, true, out, i => if c.toNat == 34 then textN l false (out ++ [34]) (i + 1) else (out, i)
def errLit : List (List UInt8) := [[35, 68, 73, 86, 47, 48, 33], [35, 86, 65, 76, 85, 69, 33], [35, 82, 69, 70, 33], [35, 78, 65, 77, 69, 63], [35, 78, 85, 77, 33], [35, 78, 47, 65], [35, 67, 89, 67, 76, 69, 33]]
def signLit : List (List UInt8) := [[60, 62], [60, 61], [62, 61], [43], [45], [42], [47], [38], [61], [60], [62], [37], [40], [41], [44], [58]]
/-- The token that a text begins with, and how many bytes it has. -/
def oneT (s : List UInt8) : Option (Nat × List UInt8 × Nat) :=
  match s with
  | [] => none
  | c :: l =>
    if isNum c then some (1, s.take (runN isNum s), runN isNum s)
    else if c.toNat == 34 then (if (textN l false [] 1).2 == 0 then none else some (2, (textN l false [] 1).1, (textN l false [] 1).2))
    else if c.toNat == 35 then (errLit.find? (fun x => x.isPrefixOf s)).map (fun x => (5, x, x.length))
    else if isWrd c && c.toNat != 33 then some (3, s.take (runN isWrd s), runN isWrd s)
    else (signLit.find? (fun x => x.isPrefixOf s)).map (fun x => (4, x, x.length))
def lexF : Nat → List UInt8 → Nat → Except Nat (List Tok)
  | 0, _, _ => .ok []
  | _ + 1, [], _ => .ok []
  | n + 1, c :: l, i =>
    if c.toNat == 32 then lexF n l (i + 1)
    else match oneT (c :: l) with
      | none => .error i
      | some (k, s, m) => match lexF n ((c :: l).drop m) (i + m) with
        | .ok ts => .ok (⟨k, s, i⟩ :: ts)
        | .error e => .error e
def lexAll (s : List UInt8) : Except Nat (List Tok) := lexF (s.length + 1) s 0
/-! ### References, names -/
def digF : List UInt8 → Option Nat
  | [d] => if decide (49 ≤ d.toNat) && decide (d.toNat ≤ 57) then some (d.toNat - 48) else none
  | [d, e] => if (decide (49 ≤ d.toNat) && decide (d.toNat ≤ 57)) && (decide (48 ≤ e.toNat) && decide (e.toNat ≤ 57)) then some ((d.toNat - 48) * 10 + (e.toNat - 48)) else none
  | _ => none
def dolF (l : List UInt8) : Bool × List UInt8 := match l with
  | c :: r => if c.toNat == 36 then (true, r) else (false, l)
  | [] => (false, [])
def bodyF (l : List UInt8) (s : Nat) : Option Rf :=
  match (dolF l).2 with
  | [] => none
  | c :: r => if decide (65 ≤ c.toNat) && decide (c.toNat ≤ 90) then (digF (dolF r).2).map (fun n => ⟨(s : Int), ((c.toNat - 65 : Nat) : Int), ((n - 1 : Nat) : Int), (dolF l).1, (dolF r).1⟩) else none
/-- The reference of a text on a sheet. -/
def refF (l : List UInt8) (t : Nat) : Option Rf :=
  match l with
  | a :: b :: c :: r => if a.toNat == 83 && c.toNat == 33 then (if decide (49 ≤ b.toNat) && decide (b.toNat ≤ 51) then bodyF r (b.toNat - 49) else none) else bodyF l t
  | _ => bodyF l t
def nameF (l : List UInt8) : Bool := !l.isEmpty && decide (l.length ≤ 12) && (l != [84, 82, 85, 69]) && (l != [70, 65, 76, 83, 69]) && (l != [66, 76, 65, 78, 75]) && decide (numOf l = 0) && goodFrom 0 l && !(refF l 0).isSome
def errNo (l : List UInt8) : Nat := match errLit.findIdx? (· == l) with
  | some i => i + 1
  | none => 0
/-! ### The parser -/
def opsLit : List (List UInt8) := [[43], [45], [42], [47], [38], [61], [60, 62], [60], [60, 61], [62], [62, 61]]
def lvlLit : Nat → List (List UInt8)
  | 0 => [[61], [60, 62], [60], [60, 61], [62], [62, 61]]
  | 1 => [[38]]
  | 2 => [[43], [45]]
  | _ => [[42], [47]]
def opNo (l : List UInt8) : Nat := match opsLit.findIdx? (· == l) with
  | some i => i + 1
  | none => 0
def isS (s : List UInt8) : List Tok → Option (List Tok)
  | [] => none
  | t :: r => if t.k == 4 && t.s == s then some r else none
def opF (lvl : Nat) : List Tok → Option (Nat × List Tok)
  | [] => none
  | t :: r => if t.k == 4 && (lvlLit lvl).contains t.s then some (opNo t.s, r) else none
def posF (E : Nat) : List Tok → Nat
  | [] => E
  | t :: _ => t.p
abbrev PR := Option (Except (Nat × Nat) (Tr × List Tok))
abbrev AR := Option (Except (Nat × Nat) (List Tr × List Tok))
def litT (k n : Int) (s : List UInt8) : Tr := .mk (litS k n (mk s)) []
def wordT (s : List UInt8) : Tr := .mk ⟨4, 0, 0, 0, ⟨#[]⟩, rf0, rf0, mk s⟩ []
/-- %, as often as it stands there. -/
def pctF : Tr → List Tok → Tr × List Tok
  | x, [] => (x, [])
  | x, t :: r => if t.k == 4 && t.s == [37] then pctF (.mk (parS 6 0) [x]) r else (x, t :: r)
def areaP (E : Nat) (a : Rf) (ts : List Tok) : Except (Nat × Nat) (Tr × List Tok) :=
  match isS [58] ts with
  | none => .ok (.mk (oneS a) [], ts)
  | some r1 => match r1 with
    | [] => .error (2, E)
    | t :: r2 => if t.k != 3 then .error (2, t.p) else match refF t.s a.s.toNat with
      | none => .error (6, t.p)
      | some b => if b.s == a.s then .ok (.mk (areaS a b) [], r2) else .error (6, t.p)
def atomP (E sh : Nat) (t : Tok) (r : List Tok) : Except (Nat × Nat) (Tr × List Tok) :=
  match refF t.s sh with
  | some a => areaP E a r
  | none => if t.s == [84, 82, 85, 69] || t.s == [70, 65, 76, 83, 69] then .ok (litT 3 (if t.s == [84, 82, 85, 69] then 1 else 0) [], r)
    else if !nameF t.s then .error (5, t.p) else .ok (wordT t.s, r)
def simpleP (t : Tok) (r : List Tok) : Except (Nat × Nat) (Tr × List Tok) :=
  if t.k == 1 then (match Num.parse t.s with
    | none => .error (2, t.p)
    | some n => .ok (litT 1 (n : Int) [], r))
  else if t.k == 2 then (if 64 < t.s.length then .error (4, t.p) else .ok (litT 2 0 t.s, r))
  else .ok (litT 4 (errNo t.s : Int) [], r)
def endP (E : Nat) (f : Int) (args : List Tr) (ts : List Tok) : Except (Nat × Nat) (Tr × List Tok) :=
  if f == 0 && args.isEmpty then .ok (litT 0 0 [], ts)
  else if !fitsOf f args.length then .error (2, posF E ts) else .ok (.mk (parS 8 f) args, ts)
section
variable (E sh : Nat)
mutual
def exprF : Nat → Nat → Nat → List Tok → PR
  | 0, _, _, _ => none
  | n + 1, lvl, d, ts => if lvl == 4 then unaryF n d ts else
    match exprF n (lvl + 1) d ts with
    | none => none
    | some (.error e) => some (.error e)
    | some (.ok (x, ts')) => loopF n lvl d x ts'
def loopF : Nat → Nat → Nat → Tr → List Tok → PR
  | 0, _, _, _, _ => none
  | n + 1, lvl, d, x, ts => match opF lvl ts with
    | none => some (.ok (x, ts))
    | some (op, ts') => match exprF n (lvl + 1) d ts' with
      | none => none
      | some (.error e) => some (.error e)
      | some (.ok (y, ts'')) => loopF n lvl d (.mk (parS 7 (op : Int)) [x, y]) ts''
def unaryF : Nat → Nat → List Tok → PR
  | 0, _, _ => none
  | n + 1, d, ts => match isS [45] ts with
    | some ts1 => if d == 64 then some (.error (3, posF E ts1)) else match unaryF n (d + 1) ts1 with
      | none => none
      | some (.error e) => some (.error e)
      | some (.ok (x, ts2)) => some (.ok (.mk (parS 5 0) [x], ts2))
    | none => match primF n d ts with
      | none => none
      | some (.error e) => some (.error e)
      | some (.ok (x, ts2)) => some (.ok (pctF x ts2))
def primF : Nat → Nat → List Tok → PR
  | 0, _, _ => none
  | n + 1, d, ts => match isS [40] ts with
    | some ts1 => if d == 64 then some (.error (3, posF E ts1)) else match exprF n 0 (d + 1) ts1 with
      | none => none
      | some (.error e) => some (.error e)
      | some (.ok (x, ts2)) => match isS [41] ts2 with
        | none => some (.error (2, posF E ts2))
        | some ts3 => some (.ok (x, ts3))
    | none => match ts with
      | [] => some (.error (2, E))
      | t :: r => if t.k == 4 then some (.error (2, t.p)) else if t.k == 3 then wordF n d t r else some (simpleP t r)
def wordF : Nat → Nat → Tok → List Tok → PR
  | 0, _, _, _ => none
  | n + 1, d, t, r => match isS [40] r with
    | none => some (atomP E sh t r)
    | some r2 => if numOf t.s == 0 && t.s != [66, 76, 65, 78, 75] then some (.error (5, t.p)) else
      match argsF n d [] r2 with
      | none => none
      | some (.error e) => some (.error e)
      | some (.ok (args, ts')) => some (endP E (numOf t.s) args ts')
def argsF : Nat → Nat → List Tr → List Tok → AR
  | 0, _, _, _ => none
  | n + 1, d, args, ts => match isS [41] ts with
    | some ts1 => some (.ok (args, ts1))
    | none => match (if args.isEmpty then some ts else isS [44] ts) with
      | none => some (.error (2, posF E ts))
      | some ts1 => if d == 64 then some (.error (3, posF E ts1)) else match exprF n 0 (d + 1) ts1 with
        | none => none
        | some (.error e) => some (.error e)
        | some (.ok (x, ts2)) => argsF n d (args ++ [x]) ts2
end
end
/-- A text's formula, on a sheet; else the error, and where. -/
def parseF (s : List UInt8) (sh : Nat) : Option (Except (Nat × Nat) Tr) :=
  if 200 < s.length then some (.error (4, 0)) else
  match lexAll s with
  | .error i => some (.error (1, i))
  | .ok ts => match exprF s.length sh (12 * ts.length + 12) 0 0 ts with
    | none => none
    | some (.error e) => some (.error e)
    | some (.ok (x, [])) => some (.ok x)
    | some (.ok (_, t :: _)) => some (.error (2, t.p))
end Go.Proofs.YtffogjhjgmohiaaDoor
