/- The assembler, plainly: what it makes of a text. Lists of bytes, no program. -/
import Derived.Test.YtjjnidbggoaonaaGreatDoorIsaE
namespace Go.Proofs.YtjjnidbggoaonaaGreatDoor

def isBl (c : UInt8) : Bool := c == 32 || c == 9
def trimB (l : List UInt8) : List UInt8 := (l.reverse.dropWhile isBl).reverse.dropWhile isBl
def cutAt (c : UInt8) : List UInt8 → Option (List UInt8 × List UInt8)
  | [] => none
  | x :: r => if x == c then some ([], r) else (cutAt c r).map fun p => (x :: p.1, p.2)
def partsAt (c : UInt8) : List UInt8 → List (List UInt8)
  | [] => [[]]
  | x :: r => if x == c then [] :: partsAt c r else match partsAt c r with
    | [] => [[x]]
    | p :: ps => (x :: p) :: ps

def lowB (c : UInt8) : Bool := 97 ≤ c && c ≤ 122
def digB (c : UInt8) : Bool := 48 ≤ c && c ≤ 57
def hexB (c : UInt8) : Bool := digB c || (97 ≤ c && c ≤ 102)
def nameC (c : UInt8) : Bool := lowB c || digB c || c == 95
/-- May it be a label's name? -/
def nameB : List UInt8 → Bool
  | [] => false
  | c :: r => decide ((c :: r).length ≤ 20) && (lowB c && (c :: r).all nameC)

def digV (c : UInt8) : Nat := if c ≤ 57 then c.toNat - 48 else c.toNat - 87
def spell (base : Nat) (l : List UInt8) : Nat := l.foldl (fun a c => a * base + digV c) 0
/-- A word's digits; has it a sign; its base. -/
def numParts : List UInt8 → List UInt8 × Bool × Nat
  | 45 :: r => (r, true, 10)
  | 48 :: 120 :: r => (r, false, 16)
  | s => (s, false, 10)
def sgn64 (x : Nat) : Int := if x < 9223372036854775808 then (x : Int) else (x : Int) - 18446744073709551616
/-- A number, and its error. -/
def numA (s : List UInt8) : Int × Nat :=
  let p := numParts s
  if p.1 = [] then (0, 10)
  else if p.1.all (if p.2.2 = 10 then digB else hexB) = false then (0, 10)
  else
    let x := spell p.2.2 p.1
    if 18446744073709551616 ≤ x ∨ (p.2.1 = true ∧ 9223372036854775808 < x) ∨ (p.2.1 = false ∧ p.2.2 = 10 ∧ 9223372036854775808 ≤ x) then (0, 11)
    else if p.2.1 = true then (-(x : Int), 0) else (sgn64 x, 0)

/-- A line that was read: its number, its word, its operands, which eight bytes it makes, how many. -/
structure ALine where
  n : Nat
  word : List UInt8
  args : List (List UInt8)
  at_ : Nat
  len : Nat
/-- A text that is read: lines, labels, the fault's kind and line. -/
structure ASrc where
  lines : List ALine
  labels : List (List UInt8 × Nat)
  fk : Nat
  fl : Nat
def failF (f : Nat × Nat) (k n : Nat) : Nat × Nat := if f.1 = 0 then (k, n) else f
def ASrc.fail (s : ASrc) (k n : Nat) : ASrc := { s with fk := (failF (s.fk, s.fl) k n).1, fl := (failF (s.fk, s.fl) k n).2 }
def lookL (es : List (List UInt8 × Nat)) (k : List UInt8) : Option Nat := (es.find? (fun p => p.1 == k)).map (·.2)
def putL (es : List (List UInt8 × Nat)) (k : List UInt8) (v : Nat) : List (List UInt8 × Nat) := if (lookL es k).isSome then es.map (fun p => if p.1 = k then (k, v) else p) else es ++ [(k, v)]

/-- A line's label, if it has one; what is left of the line. -/
def readLabel (s : ASrc) (t : List UInt8) (n at_ : Nat) : ASrc × List UInt8 :=
  match cutAt 58 t with
  | none => (s, t)
  | some (a, b) =>
    let l := trimB a
    let s1 := if (lookL s.labels l).isSome then s.fail 3 n else if nameB l then s else s.fail 10 n
    ({ s1 with labels := putL s1.labels l at_ }, trimB b)
def wordOf (t : List UInt8) : List UInt8 := t.takeWhile fun c => !isBl c
def argsOf (t : List UInt8) : List (List UInt8) := match t.dropWhile fun c => !isBl c with
  | [] => []
  | r => (partsAt 44 r).map trimB
def zeroW : List UInt8 := [46, 122, 101, 114, 111]
def wordW : List UInt8 := [46, 119, 111, 114, 100]
/-- How many eights a line makes. -/
def lenOf (s : ASrc) (word : List UInt8) (args : List (List UInt8)) (n : Nat) : ASrc × Nat :=
  match args with
  | [a] =>
    if word = zeroW then
      let p := numA a
      if p.2 ≠ 0 then (s.fail p.2 n, 1) else if p.1 < 0 ∨ 128 < p.1 then (s.fail 11 n, 1) else (s, p.1.toNat)
    else (s, 1)
  | _ => (s, 1)
/-- Without a comment, without blanks around. -/
def bare (text : List UInt8) : List UInt8 := trimB (match cutAt 35 text with | none => text | some (a, _) => a)
def readA (s : ASrc) (text : List UInt8) (n at_ : Nat) : ASrc × Nat :=
  let p := readLabel s (bare text) n at_
  if p.2 = [] then (p.1, at_)
  else
    let q := lenOf p.1 (wordOf p.2) (argsOf p.2) n
    ({ q.1 with lines := q.1.lines ++ [⟨n, wordOf p.2, argsOf p.2, at_, q.2⟩] }, min (at_ + q.2) 1048576)
def readAll : ASrc → List (List UInt8) → Nat → Nat → ASrc × Nat
  | s, [], _, at_ => (s, at_)
  | s, l :: r, n, at_ => readAll (readA s l n at_).1 r (n + 1) (readA s l n at_).2

/-- An operation's text, of no registers. -/
def opT (k : Nat) : List UInt8 := nm k ++ [32, 114, 48, 32, 114, 48, 32, 114, 48, 32, 48]
/-- The first operation from k on that a word begins. -/
def opFrom (word : List UInt8) : Nat → Nat → Nat
  | _, 0 => 0
  | k, g + 1 => if (word ++ [32]).isPrefixOf (opT k) then k + 1 else opFrom word (k + 1) g
def opA (word : List UInt8) : Nat := opFrom word 0 43
/-- An operation's form: 0 none, 1 number, 2 add, 3 three, 4 two, 5 memory, 6 branch, 7 jump, 8 one. -/
def formA (op : Nat) : Nat :=
  if op = 1 ∨ op = 43 then 0 else if op = 2 ∨ op = 3 then 1 else if op = 18 then 2 else if 19 ≤ op ∧ op ≤ 24 then 5
  else if 25 ≤ op ∧ op ≤ 28 then 6 else if op = 29 then 7 else if op = 30 then 8 else if 39 ≤ op ∧ op ≤ 42 then 4 else 3
def wantA (f : Nat) : Nat := [0, 2, 3, 3, 2, 2, 3, 2, 1].getD f 0
def regsA (f : Nat) : Nat := [0, 1, 2, 3, 2, 1, 2, 1, 1].getD f 0

def regFrom (a : List UInt8) : Nat → Nat → Option Nat
  | _, 0 => none
  | r, g + 1 => if a = 114 :: Lib.itoa r then some r else regFrom a (r + 1) g
def regA (f : Nat × Nat) (a : List UInt8) (n : Nat) : (Nat × Nat) × Nat := match regFrom a 0 16 with
  | some r => (f, r)
  | none => (failF f 10 n, 0)
def w32 (x : Int) : Int := IntKind.i32.wrap x
def immA (f : Nat × Nat) (a : List UInt8) (n : Nat) : (Nat × Nat) × Int :=
  let p := numA a
  (failF f (if p.2 = 0 ∧ p.1 ≠ w32 p.1 then 11 else p.2) n, w32 p.1)
def thereA (labels : List (List UInt8 × Nat)) (f : Nat × Nat) (a : List UInt8) (n at_ : Nat) : (Nat × Nat) × Int :=
  if nameB a then
    match lookL labels a with
    | some t => (f, (t : Int) - at_)
    | none => (failF f 2 n, -(at_ : Int))
  else immA f a n
/-- The registers that a form begins with. -/
def regsOf (f : Nat × Nat) (args : List (List UInt8)) (n : Nat) (k i : Nat) : (Nat × Nat) × Nat :=
  if i < k then regA f (args.getD i []) n else (f, 0)
def memA (f : Nat × Nat) (x : Ins) (a : List UInt8) (n : Nat) : (Nat × Nat) × Ins :=
  match cutAt 40 a with
  | none => (failF f 10 n, x)
  | some (u, v) =>
    if v.getLast? = some 41 then
      let p := regA f v.dropLast n
      let q := immA p.1 (trimB u) n
      (q.1, { x with b := p.2, imm := q.2 })
    else (failF f 10 n, x)
def operandsA (labels : List (List UInt8 × Nat)) (f : Nat × Nat) (op : Nat) (l : ALine) : (Nat × Nat) × Ins :=
  let fm := formA op
  if l.args.length ≠ wantA fm then (failF f 10 l.n, ⟨op, 0, 0, 0, 0⟩)
  else
    let p0 := regsOf f l.args l.n (regsA fm) 0
    let p1 := regsOf p0.1 l.args l.n (regsA fm) 1
    let p2 := regsOf p1.1 l.args l.n (regsA fm) 2
    let x : Ins := ⟨op, p0.2, p1.2, p2.2, 0⟩
    if fm = 1 ∨ fm = 2 then
      let q := immA p2.1 (l.args.getD (wantA fm - 1) []) l.n
      (q.1, { x with imm := q.2 })
    else if fm = 5 then memA p2.1 x (l.args.getD 1 []) l.n
    else if fm = 6 ∨ fm = 7 then
      let q := thereA labels p2.1 (l.args.getD (wantA fm - 1) []) l.n l.at_
      (q.1, { x with imm := q.2 })
    else (p2.1, x)
/-- Eight bytes, the highest first. -/
def be8 (x : Int) : List Int := (List.range 8).map fun i => x / (256 ^ (7 - i) : Nat) % 256
def makeA (labels : List (List UInt8 × Nat)) (f : Nat × Nat) (l : ALine) : (Nat × Nat) × List Int :=
  if l.word = zeroW then (if l.args.length = 1 then f else failF f 10 l.n, List.replicate (8 * l.len) 0)
  else if l.word = wordW then
    match l.args with
    | [a] => let p := numA a; (failF f p.2 l.n, be8 p.1)
    | _ => (failF f 10 l.n, [])
  else
    let op := opA l.word
    if op = 0 then (failF f 10 l.n, [])
    else let p := operandsA labels f op l; (p.1, p.2.enc)
def makeAll (labels : List (List UInt8 × Nat)) : Nat × Nat → List ALine → List Int → (Nat × Nat) × List Int
  | f, [], out => (f, out)
  | f, l :: r, out => if f.1 = 0 then makeAll labels (makeA labels f l).1 r (out ++ (makeA labels f l).2) else makeAll labels f r out
/-- A text's bytes, the fault's kind and line. -/
def assemble (text : List UInt8) : List Int × Nat × Nat :=
  if 16384 < text.length then ([], 7, 0)
  else
    let p := readAll ⟨[], [], 0, 0⟩ (partsAt 10 text) 1 0
    if 1024 < 8 * p.2 ∧ p.1.fk = 0 then ([], 7, 0)
    else
      let q := makeAll p.1.labels (p.1.fk, p.1.fl) p.1.lines []
      if q.1.1 ≠ 0 then ([], q.1) else (q.2, 0, 0)

/-- An instruction without what its form doesn't use. -/
def plainA (x : Ins) : Ins :=
  let f := formA x.op.toNat
  if f = 0 then ⟨x.op, 0, 0, 0, 0⟩ else if f = 1 ∨ f = 7 then ⟨x.op, x.a, 0, 0, x.imm⟩ else if f = 8 then ⟨x.op, x.a, 0, 0, 0⟩
  else if f = 4 then ⟨x.op, x.a, x.b, 0, 0⟩ else if f = 3 then ⟨x.op, x.a, x.b, x.c, 0⟩ else ⟨x.op, x.a, x.b, 0, x.imm⟩
def rT (r : Int) : List UInt8 := 114 :: Lib.itoa r
/-- A plain instruction's line. -/
def insLine (x : Ins) : List UInt8 :=
  let w := nm (x.op.toNat - 1)
  let f := formA x.op.toNat
  let k := Lib.itoa x.imm
  if f = 0 then w else if f = 1 ∨ f = 7 then w ++ [32] ++ rT x.a ++ [44, 32] ++ k
  else if f = 2 ∨ f = 6 then w ++ [32] ++ rT x.a ++ [44, 32] ++ rT x.b ++ [44, 32] ++ k
  else if f = 3 then w ++ [32] ++ rT x.a ++ [44, 32] ++ rT x.b ++ [44, 32] ++ rT x.c
  else if f = 4 then w ++ [32] ++ rT x.a ++ [44, 32] ++ rT x.b
  else if f = 5 then w ++ [32] ++ rT x.a ++ [44, 32] ++ k ++ [40] ++ rT x.b ++ [41]
  else w ++ [32] ++ rT x.a
end Go.Proofs.YtjjnidbggoaonaaGreatDoor
