/- A tree's tokens, and a reader of them, plainly. -/
import Derived.Test.YtmglmjbjgfbdjaaJTr4
set_option linter.unusedVariables false
set_option linter.unusedSimpArgs false
set_option maxRecDepth 20000
set_option maxHeartbeats 8000000
namespace Go.Proofs.Ytmglmjbjgfbdjaa
open Go Ax
/-- A token: its kind (1 name, 2 key, 3 number, 4 quoted, 5 sign), its text, its number. -/
abbrev Tk := Int × Bs × Int
def sg (w : Bs) : Tk := (5, w, 0)
def ky (w : Bs) : Tk := (2, w, 0)
def wd (w : Bs) : Tk := (if keyS w = true then 2 else 1, w, 0)
abbrev kDot : Tk := sg [46]
abbrev kOpen : Tk := sg [40]
abbrev kShut : Tk := sg [41]
abbrev kSq : Tk := sg [91]
abbrev kSqE : Tk := sg [93]
abbrev kBr : Tk := sg [123]
abbrev kBrE : Tk := sg [125]
abbrev kComma : Tk := sg [44]
abbrev kColon : Tk := sg [58]
abbrev kSemi : Tk := sg [59]
abbrev kEq : Tk := sg [61]
abbrev kMinus : Tk := sg [45]
abbrev kNot : Tk := sg [33]
abbrev Tk3 := List Tk × List Tk × List Tk
def atK (least : Int) (x : Tr) (t : List Tk) : List Tk := if least ≤ x.rank then t else kOpen :: (t ++ [kShut])
def commaK : List (List Tk) → List Tk
  | [] => []
  | [t] => t
  | t :: u :: ts => t ++ kComma :: commaK (u :: ts)
def fieldK : List ByteArray → List (List Tk) → List (List Tk)
  | n :: ns, t :: ts => (wd n.data.toList :: kColon :: t) :: fieldK ns ts
  | _, _ => []
def exK (ts : List Tk3) (i : Nat) : List Tk := (ts.getD i ([], [], [])).1
def blK (ts : List Tk3) (i : Nat) : List Tk := (ts.getD i ([], [], [])).2.2
def braceK (ts : List (List Tk)) : List Tk := kBr :: (ts.flatten ++ [kBrE])
/-- The tokens of an expression, of its parts' tokens. -/
def exprK (k o n : Int) (s : ByteArray) (ns : List ByteArray) (ks : List Tr) (ts : List Tk3) : List Tk :=
  let r := rankP k o
  let a := fun i least => atK least (kidT ks i) (exK ts i)
  if k = 1 then [ky [110, 117, 108, 108]] else if k = 6 then [ky [116, 104, 105, 115]] else
  if k = 2 then (if n = 1 then [ky [116, 114, 117, 101]] else [ky [102, 97, 108, 115, 101]]) else
  if k = 3 then [(3, [], n)] else if k = 4 then [(4, s.data.toList, 0)] else if k = 5 then [wd s.data.toList] else
  if k = 7 then kBr :: (commaK (fieldK ns (ts.map (·.1))) ++ [kBrE]) else
  if k = 8 then ky [102, 110] :: kOpen :: (commaK (ns.map fun s => [wd s.data.toList]) ++ kShut :: braceK (ts.map (·.2.1))) else
  if k = 9 then (if o = 1 then kMinus else kNot) :: a 0 r else
  if k = 10 ∨ k = 11 ∨ k = 12 then a 0 r ++ sg (if k = 10 then (signT o).data.toList else if k = 11 then [38, 38] else [124, 124]) :: a 1 (r + 1) else
  if k = 13 then a 0 8 ++ [kDot, wd s.data.toList] else if k = 14 then a 0 8 ++ kSq :: (exK ts 1 ++ [kSqE]) else
  if k = 15 then a 0 (if (kidT ks 0).kind = 13 then 9 else 8) ++ kOpen :: (commaK ((ts.drop 1).map (·.1)) ++ [kShut]) else
  if k = 16 then a 0 8 ++ kDot :: wd s.data.toList :: kOpen :: (commaK ((ts.drop 1).map (·.1)) ++ [kShut]) else
  if k = 17 then ky (builtS o).data.toList :: kOpen :: (commaK (ts.map (·.1)) ++ [kShut]) else []
def stmtK (k : Int) (s : ByteArray) (ks : List Tr) (ts : List Tk3) : List Tk :=
  let a := atK 8 (kidT ks 0) (exK ts 0)
  if k = 28 then ky [105, 102] :: kOpen :: (exK ts 0 ++ kShut :: (blK ts 1 ++ (if (kidT ks 2).kids = [] then [] else ky [101, 108, 115, 101] :: blK ts 2))) else
  if k = 30 then ky [119, 104, 105, 108, 101] :: kOpen :: (exK ts 0 ++ kShut :: blK ts 1) else
  if k = 21 then ky [108, 101, 116] :: wd s.data.toList :: kEq :: (exK ts 0 ++ [kSemi]) else
  if k = 22 then wd s.data.toList :: kEq :: (exK ts 0 ++ [kSemi]) else
  if k = 23 then a ++ kDot :: wd s.data.toList :: kEq :: (exK ts 1 ++ [kSemi]) else
  if k = 24 then a ++ kSq :: (exK ts 1 ++ kSqE :: kEq :: (exK ts 2 ++ [kSemi])) else
  if k = 25 then ky [100, 101, 108, 101, 116, 101] :: (a ++ [kDot, wd s.data.toList, kSemi]) else
  if k = 26 then ky [100, 101, 108, 101, 116, 101] :: (a ++ kSq :: (exK ts 1 ++ [kSqE, kSemi])) else
  if k = 27 then ky [112, 114, 105, 110, 116] :: (exK ts 0 ++ [kSemi]) else
  if k = 31 then ky [114, 101, 116, 117, 114, 110] :: (exK ts 0 ++ [kSemi]) else exK ts 0 ++ [kSemi]
mutual
/-- A tree's tokens: as an expression, as a statement, and its parts' as a block. -/
def Tr.tk : Tr → Tk3
  | .mk k o n s ns ks _ => (exprK k o n s ns ks (tks ks), stmtK k s ks (tks ks), braceK ((tks ks).map (·.2.1)))
def tks : List Tr → List Tk3
  | [] => []
  | t :: ts => t.tk :: tks ts
end
theorem tks_map : ∀ ks, tks ks = ks.map Tr.tk
  | [] => rfl
  | k :: ks => by rw [tks, tks_map ks]; rfl
theorem Tr.tk_eq (x : Tr) : x.tk = (exprK x.kind x.op x.num x.str x.names x.kids (x.kids.map Tr.tk), stmtK x.kind x.str x.kids (x.kids.map Tr.tk), braceK (x.kids.map (·.tk.2.1))) := by
  cases x
  rw [Tr.tk, tks_map]
  simp [Tr.kind, Tr.op, Tr.num, Tr.str, Tr.names, Tr.kids, Function.comp_def]
/-! The reader. -/
def noS : ByteArray := ⟨#[]⟩
/-- A sign between two: its rank, kind and number. -/
def opOf (t : Tk) : Option (Nat × Int × Int) :=
  if t = sg [124, 124] then some (1, 12, 0) else if t = sg [38, 38] then some (2, 11, 0) else
  if t = sg [61, 61] then some (3, 10, 10) else if t = sg [33, 61] then some (3, 10, 11) else
  if t = sg [60] then some (4, 10, 6) else if t = sg [60, 61] then some (4, 10, 7) else if t = sg [62] then some (4, 10, 8) else if t = sg [62, 61] then some (4, 10, 9) else
  if t = sg [43] then some (5, 10, 1) else if t = sg [45] then some (5, 10, 2) else
  if t = sg [42] then some (6, 10, 3) else if t = sg [47] then some (6, 10, 4) else if t = sg [37] then some (6, 10, 5) else none
def builtOf (t : Tk) : Int :=
  if t = ky (builtS 1).data.toList then 1 else if t = ky (builtS 2).data.toList then 2 else if t = ky (builtS 3).data.toList then 3 else if t = ky (builtS 4).data.toList then 4 else
  if t = ky (builtS 5).data.toList then 5 else if t = ky (builtS 6).data.toList then 6 else if t = ky (builtS 7).data.toList then 7 else 0
abbrev RR (α : Type) := Option (α × List Tk)
/-- Go behind a token that must come. -/
def eat {α : Type} (t : Tk) (e : α) : List Tk → RR α
  | u :: ts => if u = t then some (e, ts) else none
  | [] => none
mutual
/-- An expression of a rank. -/
def pR : Nat → Nat → List Tk → RR Tr
  | 0, _, _ => none
  | f + 1, r, ts =>
    if r ≤ 6 then (pR f (r + 1) ts).bind fun p => pC f r p.1 p.2
    else if r = 7 then
      (match ts with
       | [] => none
       | t :: ts' => if t = kMinus then (pR f 7 ts').bind fun p => some (.mk 9 1 0 noS [] [p.1] 0, p.2) else if t = kNot then (pR f 7 ts').bind fun p => some (.mk 9 2 0 noS [] [p.1] 0, p.2) else pR f 8 (t :: ts'))
    else (pA f ts).bind fun p => pP f p.1 p.2
/-- What stands behind a part of a rank. -/
def pC : Nat → Nat → Tr → List Tk → RR Tr
  | 0, _, _, _ => none
  | f + 1, r, e, ts =>
    match ts with
    | [] => some (e, [])
    | t :: ts' => match opOf t with
      | none => some (e, t :: ts')
      | some (q, k, o) => if q = r then (pR f (r + 1) ts').bind fun p => pC f r (.mk k o 0 noS [] [e, p.1] 0) p.2 else some (e, t :: ts')
/-- What stands behind an atom. -/
def pP : Nat → Tr → List Tk → RR Tr
  | 0, _, _ => none
  | f + 1, e, ts =>
    match ts with
    | [] => some (e, [])
    | t :: ts' =>
      if t = kDot then
        (match ts' with
         | [] => none
         | n :: ts2 => match ts2 with
           | [] => pP f (.mk 13 0 0 (bstr n.2.1) [] [e] 0) []
           | b :: ts3 => if b = kOpen then (pL f ts3).bind fun p => pP f (.mk 16 0 0 (bstr n.2.1) [] (e :: p.1) 0) p.2 else pP f (.mk 13 0 0 (bstr n.2.1) [] [e] 0) (b :: ts3))
      else if t = kSq then (pR f 1 ts').bind fun p => (eat kSqE p.1 p.2).bind fun q => pP f (.mk 14 0 0 noS [] [e, q.1] 0) q.2
      else if t = kOpen then (pL f ts').bind fun p => pP f (.mk 15 0 0 noS [] (e :: p.1) 0) p.2
      else some (e, t :: ts')
/-- What holds together most. -/
def pA : Nat → List Tk → RR Tr
  | 0, _ => none
  | f + 1, ts =>
    match ts with
    | [] => none
    | t :: ts' =>
      if t.1 = 3 then some (.mk 3 0 t.2.2 noS [] [] 0, ts') else if t.1 = 4 then some (.mk 4 0 0 (bstr t.2.1) [] [] 0, ts') else if t.1 = 1 then some (.mk 5 0 0 (bstr t.2.1) [] [] 0, ts') else
      if t = ky [110, 117, 108, 108] then some (.mk 1 0 0 noS [] [] 0, ts') else if t = ky [116, 104, 105, 115] then some (.mk 6 0 0 noS [] [] 0, ts') else
      if t = ky [116, 114, 117, 101] then some (.mk 2 0 1 noS [] [] 0, ts') else if t = ky [102, 97, 108, 115, 101] then some (.mk 2 0 0 noS [] [] 0, ts') else
      if t = kBr then (pO f ts').bind fun p => some (.mk 7 0 0 noS p.1.1 p.1.2 0, p.2) else
      if t = ky [102, 110] then (eat kOpen () ts').bind fun a => (pN f a.2).bind fun p => (eat kBr () p.2).bind fun b => (pB f b.2).bind fun q => some (.mk 8 0 0 noS p.1 q.1 0, q.2) else
      if t = kOpen then (pR f 1 ts').bind fun p => eat kShut p.1 p.2 else
      if builtOf t = 0 then none else (eat kOpen () ts').bind fun a => (pL f a.2).bind fun p => some (.mk 17 (builtOf t) 0 noS [] p.1 0, p.2)
/-- Expressions up to a round bracket. -/
def pL : Nat → List Tk → RR (List Tr)
  | 0, _ => none
  | f + 1, ts =>
    match ts with
    | [] => none
    | t :: ts' => if t = kShut then some ([], ts') else (pR f 1 (t :: ts')).bind fun p =>
      match p.2 with
      | [] => none
      | c :: r => if c = kComma then (pL f r).bind fun q => some (p.1 :: q.1, q.2) else if c = kShut then some ([p.1], r) else none
/-- An object's fields up to its bracket. -/
def pO : Nat → List Tk → RR (List ByteArray × List Tr)
  | 0, _ => none
  | f + 1, ts =>
    match ts with
    | [] => none
    | t :: ts' => if t = kBrE then some (([], []), ts') else (eat kColon () ts').bind fun a => (pR f 1 a.2).bind fun p =>
      match p.2 with
      | [] => none
      | c :: r => if c = kComma then (pO f r).bind fun q => some ((bstr t.2.1 :: q.1.1, p.1 :: q.1.2), q.2) else if c = kBrE then some (([bstr t.2.1], [p.1]), r) else none
/-- Names up to a round bracket. -/
def pN : Nat → List Tk → RR (List ByteArray)
  | 0, _ => none
  | f + 1, ts =>
    match ts with
    | [] => none
    | t :: ts' => if t = kShut then some ([], ts') else
      match ts' with
      | [] => none
      | c :: r => if c = kComma then (pN f r).bind fun q => some (bstr t.2.1 :: q.1, q.2) else if c = kShut then some ([bstr t.2.1], r) else none
/-- Statements up to a curly bracket. -/
def pB : Nat → List Tk → RR (List Tr)
  | 0, _ => none
  | f + 1, ts =>
    match ts with
    | [] => none
    | t :: ts' => if t = kBrE then some ([], ts') else (pS f (t :: ts')).bind fun p => (pB f p.2).bind fun q => some (p.1 :: q.1, q.2)
/-- A statement. -/
def pS : Nat → List Tk → RR Tr
  | 0, _ => none
  | f + 1, ts =>
    match ts with
    | [] => none
    | t :: ts' =>
      if t = ky [108, 101, 116] then
        (match ts' with
         | [] => none
         | n :: r => (eat kEq () r).bind fun a => (pR f 1 a.2).bind fun p => eat kSemi (.mk 21 0 0 (bstr n.2.1) [] [p.1] 0) p.2)
      else if t = ky [112, 114, 105, 110, 116] then (pR f 1 ts').bind fun p => eat kSemi (.mk 27 0 0 noS [] [p.1] 0) p.2
      else if t = ky [114, 101, 116, 117, 114, 110] then (pR f 1 ts').bind fun p => eat kSemi (.mk 31 0 0 noS [] [p.1] 0) p.2
      else if t = ky [100, 101, 108, 101, 116, 101] then (pR f 8 ts').bind fun p => eat kSemi (if p.1.kind = 13 then .mk 25 0 0 p.1.str [] p.1.kids 0 else .mk 26 0 0 noS [] p.1.kids 0) p.2
      else if t = ky [105, 102] then (eat kOpen () ts').bind fun a => (pR f 1 a.2).bind fun p => (eat kShut () p.2).bind fun b => (eat kBr () b.2).bind fun c => (pB f c.2).bind fun q =>
        (match q.2 with
         | [] => some (.mk 28 0 0 noS [] [p.1, .mk 29 0 0 noS [] q.1 0, .mk 29 0 0 noS [] [] 0] 0, [])
         | e :: r => if e = ky [101, 108, 115, 101] then (eat kBr () r).bind fun d => (pB f d.2).bind fun q2 => some (.mk 28 0 0 noS [] [p.1, .mk 29 0 0 noS [] q.1 0, .mk 29 0 0 noS [] q2.1 0] 0, q2.2) else some (.mk 28 0 0 noS [] [p.1, .mk 29 0 0 noS [] q.1 0, .mk 29 0 0 noS [] [] 0] 0, e :: r))
      else if t = ky [119, 104, 105, 108, 101] then (eat kOpen () ts').bind fun a => (pR f 1 a.2).bind fun p => (eat kShut () p.2).bind fun b => (eat kBr () b.2).bind fun c => (pB f c.2).bind fun q => some (.mk 30 0 0 noS [] [p.1, .mk 29 0 0 noS [] q.1 0] 0, q.2)
      else (pR f 1 (t :: ts')).bind fun p =>
        match p.2 with
        | [] => none
        | c :: r => if c = kEq then (pR f 1 r).bind fun v => eat kSemi (if p.1.kind = 5 then .mk 22 0 0 p.1.str [] [v.1] 0 else if p.1.kind = 13 then .mk 23 0 0 p.1.str [] (p.1.kids ++ [v.1]) 0 else .mk 24 0 0 noS [] (p.1.kids ++ [v.1]) 0) v.2
          else if c = kSemi then some (.mk 32 0 0 noS [] [p.1] 0, r) else none
end
/-- A program. -/
def pT : Nat → List Tk → Option (List Tr)
  | 0, _ => none
  | f + 1, ts =>
    match ts with
    | [] => some []
    | t :: ts' => (pS f (t :: ts')).bind fun p => (pT f p.2).bind fun q => some (p.1 :: q)
end Go.Proofs.Ytmglmjbjgfbdjaa
/- The reader reads a tree's tokens: expressions' ranks, plainly. -/
set_option linter.unusedVariables false
set_option linter.unusedSimpArgs false
set_option maxRecDepth 20000
set_option maxHeartbeats 8000000
namespace Go.Proofs.Ytmglmjbjgfbdjaa
open Go Ax
def Ev (P : Nat → Prop) : Prop := ∃ f0, ∀ f, f0 ≤ f → P f
theorem Ev.all {P : Nat → Prop} (h : ∀ f, P f) : Ev P := ⟨0, fun f _ => h f⟩
theorem Ev.s {P Q : Nat → Prop} (h : Ev P) (k : ∀ f, P f → Q (f + 1)) : Ev Q := by
  obtain ⟨f0, h⟩ := h
  refine ⟨f0 + 1, fun f hf => ?_⟩
  obtain ⟨g, rfl⟩ : ∃ g, f = g + 1 := ⟨f - 1, by omega⟩
  exact k g (h g (by omega))
theorem Ev.a {P : Nat → Prop} (k : ∀ f, P (f + 1)) : Ev P := (Ev.all (P := fun _ => True) fun _ => True.intro).s fun f _ => k f
theorem Ev.and {P Q : Nat → Prop} (h : Ev P) (k : Ev Q) : Ev fun f => P f ∧ Q f := by
  obtain ⟨f0, h⟩ := h
  obtain ⟨g0, k⟩ := k
  exact ⟨max f0 g0, fun f hf => ⟨h f (by omega), k f (by omega)⟩⟩
theorem Ev.mono {P Q : Nat → Prop} (h : Ev P) (k : ∀ f, P f → Q f) : Ev Q := let ⟨f0, h⟩ := h; ⟨f0, fun f hf => k f (h f hf)⟩
def noPost (ts : List Tk) : Prop := ∀ t r, ts = t :: r → t ≠ kDot ∧ t ≠ kSq ∧ t ≠ kOpen
def lowOp (n : Nat) (ts : List Tk) : Prop := ∀ t r, ts = t :: r → ∀ q k o, opOf t = some (q, k, o) → q ≤ n
def noOpen (ts : List Tk) : Prop := ∀ t r, ts = t :: r → t ≠ kOpen
theorem pP_stop {ts : List Tk} (h : noPost ts) (e : Tr) : Ev fun f => pP f e ts = some (e, ts) := Ev.a fun f => by
  show pP (f + 1) e ts = _
  unfold pP
  cases ts with
  | nil => rfl
  | cons t r =>
    obtain ⟨h1, h2, h3⟩ := h t r rfl
    dsimp only
    rw [if_neg h1, if_neg h2, if_neg h3]
theorem pC_stop {ts : List Tk} {n r : Nat} (h : lowOp n ts) (hn : n < r) (e : Tr) : Ev fun f => pC f r e ts = some (e, ts) := Ev.a fun f => by
  show pC (f + 1) r e ts = _
  unfold pC
  cases ts with
  | nil => rfl
  | cons t u =>
    dsimp only
    split
    · rfl
    · rename_i q k o he
      have := h t u rfl q k o he
      rw [if_neg (by omega)]
/-- One rank down. -/
theorem pR_step {T ts : List Tk} {e : Tr} {r : Nat} {res : Tr × List Tk} (hr : r ≤ 6) (h : Ev fun f => pR f (r + 1) (T ++ ts) = some (e, ts)) (hc : Ev fun f => pC f r e ts = some res) : Ev fun f => pR f r (T ++ ts) = some res :=
  (h.and hc).s fun f ⟨h1, h2⟩ => by
    show pR (f + 1) r (T ++ ts) = _
    unfold pR
    rw [if_pos hr, show pR f (r + 1) (T ++ ts) = _ from h1]
    exact h2
theorem climb {T ts : List Tk} {e : Tr} {m : Nat} (hm : m ≤ 6) (h : ∀ res, lowOp m ts → (Ev fun f => pC f m e ts = some res) → Ev fun f => pR f m (T ++ ts) = some res) :
    ∀ d, d ≤ m → ∀ res, lowOp (m - d) ts → (Ev fun f => pC f (m - d) e ts = some res) → Ev fun f => pR f (m - d) (T ++ ts) = some res
  | 0, _, res, hl, hc => h res hl hc
  | d + 1, hd, res, hl, hc => by
    have h1 := climb hm h d (by omega) (e, ts) (fun t r e q k o he => by have := hl t r e q k o he; omega) (pC_stop hl (by omega) e)
    rw [show m - d = (m - (d + 1)) + 1 from by omega] at h1
    exact pR_step (by omega) h1 hc
/-- Can an expression begin so? -/
def eh (t : Tk) : Bool := t.1 == 1 || t.1 == 3 || t.1 == 4 || t == ky [110, 117, 108, 108] || t == ky [116, 104, 105, 115] || t == ky [116, 114, 117, 101] || t == ky [102, 97, 108, 115, 101] || t == kBr || t == ky [102, 110] || t == kOpen || t == kMinus || t == kNot || builtOf t != 0
structure QE (x : Tr) : Prop where
  head : ∃ t r, x.tk.1 = t :: r ∧ eh t = true ∧ (8 ≤ x.rank → t ≠ kMinus ∧ t ≠ kNot)
  p8 : 8 ≤ x.rank → ∀ ts res, (x.kind = 13 → noOpen ts) → (Ev fun f => pP f x.flat ts = some res) → Ev fun f => pR f 8 (x.tk.1 ++ ts) = some res
  p7 : 7 ≤ x.rank → ∀ ts, noPost ts → Ev fun f => pR f 7 (x.tk.1 ++ ts) = some (x.flat, ts)
  pr : ∀ r : Nat, 1 ≤ r → r ≤ 6 → (r : Int) ≤ x.rank → ∀ ts res, noPost ts → lowOp r ts → (Ev fun f => pC f r x.flat ts = some res) → Ev fun f => pR f r (x.tk.1 ++ ts) = some res
theorem noPost.open {ts : List Tk} (h : noPost ts) : noOpen ts := fun t r e => (h t r e).2.2
theorem from7 {T ts : List Tk} {e : Tr} (h7 : Ev fun f => pR f 7 (T ++ ts) = some (e, ts)) {r : Nat} (h1 : 1 ≤ r) (h6 : r ≤ 6) {res : Tr × List Tk} (hl : lowOp r ts) (hc : Ev fun f => pC f r e ts = some res) : Ev fun f => pR f r (T ++ ts) = some res := by
  have := climb (T := T) (ts := ts) (e := e) (m := 6) (Nat.le_refl _) (fun res _ hc => pR_step (r := 6) (Nat.le_refl _) h7 hc) (6 - r) (by omega) res (by rwa [show 6 - (6 - r) = r from by omega]) (by rwa [show 6 - (6 - r) = r from by omega])
  rwa [show 6 - (6 - r) = r from by omega] at this
theorem to7 {T ts : List Tk} {e : Tr} {t : Tk} {u : List Tk} (hT : T = t :: u) (h1 : t ≠ kMinus) (h2 : t ≠ kNot) (h8 : Ev fun f => pR f 8 (T ++ ts) = some (e, ts)) : Ev fun f => pR f 7 (T ++ ts) = some (e, ts) :=
  h8.s fun f h => by
    subst hT
    show pR (f + 1) 7 (t :: (u ++ ts)) = _
    unfold pR
    rw [if_neg (by omega), if_pos rfl]
    dsimp only
    rw [if_neg h1, if_neg h2]
    exact h
theorem QE.of8 {x : Tr} (h8 : 8 ≤ x.rank) (head : ∃ t r, x.tk.1 = t :: r ∧ eh t = true ∧ t ≠ kMinus ∧ t ≠ kNot) (p8 : ∀ ts res, (x.kind = 13 → noOpen ts) → (Ev fun f => pP f x.flat ts = some res) → Ev fun f => pR f 8 (x.tk.1 ++ ts) = some res) : QE x := by
  obtain ⟨t, r, e1, e2, e3, e4⟩ := head
  have p7 : ∀ ts, noPost ts → Ev fun f => pR f 7 (x.tk.1 ++ ts) = some (x.flat, ts) := fun ts hn => to7 e1 e3 e4 (p8 ts _ (fun _ => hn.open) (pP_stop hn _))
  exact ⟨⟨t, r, e1, e2, fun _ => ⟨e3, e4⟩⟩, fun _ => p8, fun _ => p7, fun r h1 h6 _ ts res hn hl hc => from7 (p7 ts hn) h1 h6 hl hc⟩
theorem QE.of7 {x : Tr} (h7 : x.rank = 7) (head : ∃ t r, x.tk.1 = t :: r ∧ eh t = true) (p7 : ∀ ts, noPost ts → Ev fun f => pR f 7 (x.tk.1 ++ ts) = some (x.flat, ts)) : QE x := by
  obtain ⟨t, r, e1, e2⟩ := head
  exact ⟨⟨t, r, e1, e2, fun h => by omega⟩, fun h => by omega, fun _ => p7, fun r h1 h6 _ ts res hn hl hc => from7 (p7 ts hn) h1 h6 hl hc⟩
theorem QE.ofR {x : Tr} {m : Nat} (hm : x.rank = m) (h1 : 1 ≤ m) (h6 : m ≤ 6) (head : ∃ t r, x.tk.1 = t :: r ∧ eh t = true) (pm : ∀ ts res, noPost ts → lowOp m ts → (Ev fun f => pC f m x.flat ts = some res) → Ev fun f => pR f m (x.tk.1 ++ ts) = some res) : QE x := by
  obtain ⟨t, r, e1, e2⟩ := head
  refine ⟨⟨t, r, e1, e2, fun h => by omega⟩, fun h => by omega, fun h => by omega, fun r h1 h6' hr ts res hn hl hc => ?_⟩
  have := climb (T := x.tk.1) (ts := ts) (e := x.flat) h6 (fun res hl hc => pm ts res hn hl hc) (m - r) (by omega) res (by rwa [show m - (m - r) = r from by omega]) (by rwa [show m - (m - r) = r from by omega])
  rwa [show m - (m - r) = r from by omega] at this
/-- A whole expression. -/
theorem QE.full {x : Tr} (q : QE x) (hr : 1 ≤ x.rank) {ts : List Tk} (hn : noPost ts) (hl : lowOp 0 ts) : Ev fun f => pR f 1 (x.tk.1 ++ ts) = some (x.flat, ts) :=
  q.pr 1 (Nat.le_refl _) (by omega) hr ts _ hn (fun t r e q k o he => by have := hl t r e q k o he; omega) (pC_stop hl (by omega) _)
theorem QE.ofAtom {x : Tr} (h8 : x.rank = 9) (hk : x.kind ≠ 13) (head : ∃ t r, x.tk.1 = t :: r ∧ eh t = true ∧ t ≠ kMinus ∧ t ≠ kNot) (hA : ∀ ts, Ev fun f => pA f (x.tk.1 ++ ts) = some (x.flat, ts)) : QE x :=
  .of8 (by omega) head fun ts res _ hp => ((hA ts).and hp).s fun f ⟨h1, h2⟩ => by
    show pR (f + 1) 8 _ = _
    unfold pR
    rw [if_neg (by omega), if_neg (by omega)]
    rw [show pA f _ = _ from h1]
    exact h2
/-- Signs of tokens that end an expression. -/
def endT (t : Tk) : Prop := (t ≠ kDot ∧ t ≠ kSq ∧ t ≠ kOpen) ∧ opOf t = none
theorem endT.post {t : Tk} (h : endT t) (ts : List Tk) : noPost (t :: ts) := fun t' r e => by simp only [List.cons.injEq] at e; obtain ⟨rfl, -⟩ := e; exact h.1
theorem endT.op {t : Tk} (h : endT t) (ts : List Tk) : lowOp 0 (t :: ts) := fun t' r e q k o he => by simp only [List.cons.injEq] at e; obtain ⟨rfl, -⟩ := e; rw [h.2] at he; simp at he
theorem end_shut : endT kShut := by unfold endT; decide
theorem end_sq : endT kSqE := by unfold endT; decide
theorem end_comma : endT kComma := by unfold endT; decide
theorem end_br : endT kBrE := by unfold endT; decide
theorem end_semi : endT kSemi := by unfold endT; decide
theorem end_eq : endT kEq := by unfold endT; decide
theorem QE.fullE {x : Tr} (q : QE x) (hr : 1 ≤ x.rank) {t : Tk} (ht : endT t) (ts : List Tk) : Ev fun f => pR f 1 (x.tk.1 ++ t :: ts) = some (x.flat, t :: ts) := q.full hr (ht.post ts) (ht.op ts)
/-- In brackets. -/
theorem QE.paren {x : Tr} (q : QE x) (hr : 1 ≤ x.rank) (ts : List Tk) : Ev fun f => pA f ((kOpen :: (x.tk.1 ++ [kShut])) ++ ts) = some (x.flat, ts) :=
  (q.fullE hr end_shut ts).s fun f h => by
    show pA (f + 1) (kOpen :: (x.tk.1 ++ [kShut] ++ ts)) = _
    unfold pA
    dsimp only
    rw [if_neg (by decide), if_neg (by decide), if_neg (by decide), if_neg (by decide), if_neg (by decide), if_neg (by decide), if_neg (by decide), if_neg (by decide), if_neg (by decide), if_pos rfl]
    rw [List.append_assoc, List.singleton_append, show pR f 1 _ = _ from h]
    show eat kShut x.flat (kShut :: ts) = _
    rw [eat, if_pos rfl]
/-- A part in front of what stands behind it. -/
theorem QE.at8 {x : Tr} (q : QE x) (hr : 1 ≤ x.rank) {least : Int} (h8 : 8 ≤ least) : (∃ t r, atK least x x.tk.1 = t :: r ∧ eh t = true ∧ t ≠ kMinus ∧ t ≠ kNot) ∧ ∀ ts res, (least ≤ x.rank → x.kind = 13 → noOpen ts) → (Ev fun f => pP f x.flat ts = some res) → Ev fun f => pR f 8 (atK least x x.tk.1 ++ ts) = some res := by
  unfold atK
  by_cases hl : least ≤ x.rank
  · rw [if_pos hl]
    obtain ⟨t, r, e1, e2, e3⟩ := q.head
    exact ⟨⟨t, r, e1, e2, e3 (by omega)⟩, fun ts res hk hp => q.p8 (by omega) ts res (hk hl) hp⟩
  · rw [if_neg hl]
    refine ⟨⟨kOpen, _, rfl, by decide, by decide, by decide⟩, fun ts res hk hp => ((q.paren hr ts).and hp).s fun f ⟨h1, h2⟩ => ?_⟩
    show pR (f + 1) 8 _ = _
    unfold pR
    rw [if_neg (by omega), if_neg (by omega)]
    rw [show pA f _ = _ from h1]
    exact h2
theorem QE.at7 {x : Tr} (q : QE x) (hr : 1 ≤ x.rank) {ts : List Tk} (hn : noPost ts) : Ev fun f => pR f 7 (atK 7 x x.tk.1 ++ ts) = some (x.flat, ts) := by
  unfold atK
  by_cases hl : 7 ≤ x.rank
  · rw [if_pos hl]; exact q.p7 hl ts hn
  · rw [if_neg hl]
    refine to7 rfl (by decide) (by decide) (((q.paren hr ts).and (pP_stop hn x.flat)).s fun f ⟨h1, h2⟩ => ?_)
    show pR (f + 1) 8 _ = _
    unfold pR
    rw [if_neg (by omega), if_neg (by omega)]
    rw [show pA f _ = _ from h1]
    exact h2
theorem QE.atR {x : Tr} (q : QE x) (hr : 1 ≤ x.rank) {m : Nat} (h1 : 1 ≤ m) (h6 : m ≤ 6) : (∃ t r, atK m x x.tk.1 = t :: r ∧ eh t = true) ∧ ∀ ts res, noPost ts → lowOp m ts → (Ev fun f => pC f m x.flat ts = some res) → Ev fun f => pR f m (atK m x x.tk.1 ++ ts) = some res := by
  unfold atK
  by_cases hl : (m : Int) ≤ x.rank
  · rw [if_pos hl]
    obtain ⟨t, r, e1, e2, -⟩ := q.head
    exact ⟨⟨t, r, e1, e2⟩, fun ts res hn hlo hc => q.pr m h1 h6 hl ts res hn hlo hc⟩
  · rw [if_neg hl]
    refine ⟨⟨kOpen, _, rfl, by decide⟩, fun ts res hn hlo hc => from7 (to7 rfl (by decide) (by decide) (((q.paren hr ts).and (pP_stop hn x.flat)).s fun f ⟨a1, a2⟩ => ?_)) h1 h6 hlo hc⟩
    show pR (f + 1) 8 _ = _
    unfold pR
    rw [if_neg (by omega), if_neg (by omega)]
    rw [show pA f _ = _ from a1]
    exact a2
/-- A part of the next rank, whole. -/
theorem QE.atS {x : Tr} (q : QE x) (hr : 1 ≤ x.rank) {m : Nat} (h1 : 1 ≤ m) (h6 : m ≤ 6) {ts : List Tk} (hn : noPost ts) (hl : lowOp m ts) : Ev fun f => pR f (m + 1) (atK ((m : Int) + 1) x x.tk.1 ++ ts) = some (x.flat, ts) := by
  by_cases h : m = 6
  · subst h; exact q.at7 hr hn
  · have := (q.atR hr (m := m + 1) (by omega) (by omega)).2 ts (x.flat, ts) hn (fun t r e q k o he => by have := hl t r e q k o he; omega) (pC_stop hl (by omega) _)
    exact this
end Go.Proofs.Ytmglmjbjgfbdjaa
/- The reader reads a tree's tokens: expressions, plainly. -/
set_option linter.unusedVariables false
set_option linter.unusedSimpArgs false
set_option maxRecDepth 20000
set_option maxHeartbeats 8000000
namespace Go.Proofs.Ytmglmjbjgfbdjaa
open Go Ax
theorem flat_mk (x : Tr) : x.flat = .mk x.kind x.op x.num x.str x.names (x.kids.map Tr.flat) 0 := by
  cases x; rw [Tr.flat, flats_map]; rfl
theorem flat_of {x : Tr} {k o n : Int} {s : ByteArray} {ns : List ByteArray} {L : List Tr} (hk : x.kind = k) (ho : x.op = o) (hn : x.num = n) (hs : x.str = s) (hns : x.names = ns) (hL : x.kids.map Tr.flat = L) : x.flat = .mk k o n s ns L 0 := by
  rw [flat_mk, hk, ho, hn, hs, hns, hL]
theorem BareP.nm {x : Tr} {a b c : Bool} (h : BareP x a b c true) : x.names = [] := List.length_eq_zero_iff.1 (h.2.2.2 rfl)
theorem eh_ne {t u : Tk} (h : eh t = true) (hu : eh u = false) : t ≠ u := by rintro rfl; rw [h] at hu; exact absurd hu (by simp)
theorem wd_key {w : Bs} (h : keyS w = false) : wd w = (1, w, 0) := by unfold wd; rw [if_neg (by simp [h])]
theorem wd_ne (w u : Bs) : wd w ≠ sg u := by
  unfold wd sg
  intro h
  have := congrArg Prod.fst h
  dsimp only at this
  split at this <;> omega
theorem wd_txt (w : Bs) : (wd w).2.1 = w := rfl
/-- One token alone. -/
theorem q_tok {x : Tr} {t : Tk} (hr : x.rank = 9) (hk : x.kind ≠ 13) (ht : x.tk.1 = [t]) (he : eh t = true) (h1 : t ≠ kMinus) (h2 : t ≠ kNot) (hA : ∀ f ts, pA (f + 1) (t :: ts) = some (x.flat, ts)) : QE x :=
  .ofAtom hr hk ⟨t, [], ht, he, h1, h2⟩ fun ts => Ev.a fun f => by
    show pA (f + 1) (x.tk.1 ++ ts) = _
    rw [ht]
    exact hA f ts
theorem q_1 {x : Tr} (hk : x.kind = 1) (hb : BareP x true true true true) (hn : x.kids = []) : QE x :=
  q_tok (t := ky [110, 117, 108, 108]) (by unfold Tr.rank; rw [hk]; rfl) (by omega) (by rw [Tr.tk_eq, hk]; rfl) (by decide) (by decide) (by decide) fun f ts => by
    rw [flat_of hk (hb.1 rfl) (hb.2.1 rfl) (hb.2.2.1 rfl) hb.nm (by rw [hn] <;> rfl)]; rfl
theorem q_6 {x : Tr} (hk : x.kind = 6) (hb : BareP x true true true true) (hn : x.kids = []) : QE x :=
  q_tok (t := ky [116, 104, 105, 115]) (by unfold Tr.rank; rw [hk]; rfl) (by omega) (by rw [Tr.tk_eq, hk]; rfl) (by decide) (by decide) (by decide) fun f ts => by
    rw [flat_of hk (hb.1 rfl) (hb.2.1 rfl) (hb.2.2.1 rfl) hb.nm (by rw [hn] <;> rfl)]; rfl
theorem q_2 {x : Tr} (hk : x.kind = 2) (hb : BareP x true false true true) (hv : x.num = 0 ∨ x.num = 1) (hn : x.kids = []) : QE x := by
  rcases hv with hv | hv
  · exact q_tok (t := ky [102, 97, 108, 115, 101]) (by unfold Tr.rank; rw [hk]; rfl) (by omega) (by rw [Tr.tk_eq, hk, hv]; rfl) (by decide) (by decide) (by decide) fun f ts => by
      rw [flat_of hk (hb.1 rfl) hv (hb.2.2.1 rfl) hb.nm (by rw [hn] <;> rfl)]; rfl
  · exact q_tok (t := ky [116, 114, 117, 101]) (by unfold Tr.rank; rw [hk]; rfl) (by omega) (by rw [Tr.tk_eq, hk, hv]; rfl) (by decide) (by decide) (by decide) fun f ts => by
      rw [flat_of hk (hb.1 rfl) hv (hb.2.2.1 rfl) hb.nm (by rw [hn] <;> rfl)]; rfl
theorem ne_kind {t u : Tk} (h : t.1 ≠ u.1) : t ≠ u := fun e => h (by rw [e])
theorem q_3 {x : Tr} (hk : x.kind = 3) (hb : BareP x true false true true) (hn : x.kids = []) : QE x :=
  q_tok (t := (3, [], x.num)) (by unfold Tr.rank; rw [hk]; rfl) (by omega) (by rw [Tr.tk_eq, hk]; rfl) rfl (ne_kind (by show (3 : Int) ≠ 5; omega)) (ne_kind (by show (3 : Int) ≠ 5; omega)) fun f ts => by
    rw [flat_of hk (hb.1 rfl) rfl (hb.2.2.1 rfl) hb.nm (by rw [hn] <;> rfl)]; rfl
theorem q_4 {x : Tr} (hk : x.kind = 4) (hb : BareP x true true false true) (hn : x.kids = []) : QE x :=
  q_tok (t := (4, x.str.data.toList, 0)) (by unfold Tr.rank; rw [hk]; rfl) (by omega) (by rw [Tr.tk_eq, hk]; rfl) rfl (ne_kind (by show (4 : Int) ≠ 5; omega)) (ne_kind (by show (4 : Int) ≠ 5; omega)) fun f ts => by
    rw [flat_of hk (hb.1 rfl) (hb.2.1 rfl) rfl hb.nm (by rw [hn] <;> rfl)]; rfl
theorem q_5 {x : Tr} (hk : x.kind = 5) (hb : BareP x true true false true) (hkey : keyS x.str.data.toList = false) (hn : x.kids = []) : QE x :=
  q_tok (t := (1, x.str.data.toList, 0)) (by unfold Tr.rank; rw [hk]; rfl) (by omega) (by rw [Tr.tk_eq, hk, ← wd_key hkey]; rfl) rfl (ne_kind (by show (1 : Int) ≠ 5; omega)) (ne_kind (by show (1 : Int) ≠ 5; omega)) fun f ts => by
    rw [flat_of hk (hb.1 rfl) (hb.2.1 rfl) rfl hb.nm (by rw [hn] <;> rfl)]; rfl
/-- Right below: each part is read, and is an expression. -/
def QK (ks : List Tr) : Prop := ∀ y ∈ ks, QE y ∧ 1 ≤ y.rank
theorem QK.tail {y : Tr} {ks : List Tr} (h : QK (y :: ks)) : QK ks := fun z hz => h z (List.mem_cons_of_mem _ hz)
theorem pL_ok : ∀ {ks : List Tr}, QK ks → ∀ ts, Ev fun f => pL f (commaK (ks.map (·.tk.1)) ++ kShut :: ts) = some (ks.map Tr.flat, ts)
  | [], _, ts => Ev.a fun f => rfl
  | [y], h, ts => by
    obtain ⟨q, hr⟩ := h y (by simp)
    obtain ⟨t, r, e1, e2, -⟩ := q.head
    refine (q.fullE hr end_shut ts).s fun f h => ?_
    show pL (f + 1) (y.tk.1 ++ kShut :: ts) = _
    have h : pR f 1 (y.tk.1 ++ kShut :: ts) = _ := h
    rw [e1] at h ⊢
    rw [List.cons_append] at h ⊢
    unfold pL
    dsimp only
    rw [if_neg (eh_ne e2 (by decide)), h]
    rfl
  | y :: z :: ks, h, ts => by
    obtain ⟨q, hr⟩ := h y (by simp)
    obtain ⟨t, r, e1, e2, -⟩ := q.head
    refine ((q.fullE hr end_comma (commaK ((z :: ks).map (·.tk.1)) ++ kShut :: ts)).and (pL_ok h.tail ts)).s fun f ⟨h1, h2⟩ => ?_
    have h1 : pR f 1 (y.tk.1 ++ kComma :: (commaK ((z :: ks).map (·.tk.1)) ++ kShut :: ts)) = _ := h1
    have h2 : pL f (commaK ((z :: ks).map (·.tk.1)) ++ kShut :: ts) = _ := h2
    show pL (f + 1) ((y.tk.1 ++ kComma :: commaK ((z :: ks).map (·.tk.1))) ++ kShut :: ts) = _
    rw [List.append_assoc, List.cons_append]
    generalize commaK ((z :: ks).map (·.tk.1)) ++ kShut :: ts = T at h1 h2 ⊢
    rw [e1] at h1 ⊢
    rw [List.cons_append] at h1 ⊢
    unfold pL
    dsimp only
    rw [if_neg (eh_ne e2 (by decide)), h1]
    rw [Option.bind_some]
    dsimp only
    rw [if_pos rfl, h2]
    rfl
theorem pO_ok : ∀ {ns : List ByteArray} {ks : List Tr}, ks.length = ns.length → QK ks → ∀ ts, Ev fun f => pO f (commaK (fieldK ns (ks.map (·.tk.1))) ++ kBrE :: ts) = some ((ns, ks.map Tr.flat), ts)
  | [], [], _, _, ts => Ev.a fun f => rfl
  | [], _ :: _, h, _, _ => by simp at h
  | _ :: _, [], h, _, _ => by simp at h
  | [n], [y], _, h, ts => by
    obtain ⟨q, hr⟩ := h y (by simp)
    refine (q.fullE hr end_br ts).s fun f h => ?_
    have h : pR f 1 (y.tk.1 ++ kBrE :: ts) = _ := h
    show pO (f + 1) (wd n.data.toList :: kColon :: (y.tk.1 ++ kBrE :: ts)) = _
    unfold pO
    dsimp only
    rw [if_neg (wd_ne _ _)]
    show (pR f 1 (y.tk.1 ++ kBrE :: ts)).bind _ = _
    rw [h]
    rfl
  | n :: m :: ns, [y], hl, _, _ => by simp at hl
  | [n], y :: z :: ks, hl, _, _ => by simp at hl
  | n :: m :: ns, y :: z :: ks, hl, h, ts => by
    obtain ⟨q, hr⟩ := h y (by simp)
    refine ((q.fullE hr end_comma (commaK (fieldK (m :: ns) ((z :: ks).map (·.tk.1))) ++ kBrE :: ts)).and (pO_ok (ns := m :: ns) (ks := z :: ks) (by simpa using hl) h.tail ts)).s fun f ⟨h1, h2⟩ => ?_
    have h1 : pR f 1 (y.tk.1 ++ kComma :: (commaK (fieldK (m :: ns) ((z :: ks).map (·.tk.1))) ++ kBrE :: ts)) = _ := h1
    have h2 : pO f (commaK (fieldK (m :: ns) ((z :: ks).map (·.tk.1))) ++ kBrE :: ts) = _ := h2
    show pO (f + 1) (((wd n.data.toList :: kColon :: y.tk.1) ++ kComma :: commaK (fieldK (m :: ns) ((z :: ks).map (·.tk.1)))) ++ kBrE :: ts) = _
    rw [show ((wd n.data.toList :: kColon :: y.tk.1) ++ kComma :: commaK (fieldK (m :: ns) ((z :: ks).map (·.tk.1)))) ++ kBrE :: ts = wd n.data.toList :: kColon :: (y.tk.1 ++ kComma :: (commaK (fieldK (m :: ns) ((z :: ks).map (·.tk.1))) ++ kBrE :: ts)) from by simp]
    generalize commaK (fieldK (m :: ns) ((z :: ks).map (·.tk.1))) ++ kBrE :: ts = T at h1 h2 ⊢
    unfold pO
    dsimp only
    rw [if_neg (wd_ne _ _)]
    show (pR f 1 (y.tk.1 ++ kComma :: T)).bind _ = _
    rw [h1]
    rw [Option.bind_some]
    dsimp only
    rw [if_pos rfl, h2]
    rfl
theorem pN_ok : ∀ {ns : List ByteArray}, ∀ ts, Ev fun f => pN f (commaK (ns.map fun s => [wd s.data.toList]) ++ kShut :: ts) = some (ns, ts)
  | [], ts => Ev.a fun f => rfl
  | [n], ts => Ev.a fun f => by
    show pN (f + 1) (wd n.data.toList :: kShut :: ts) = _
    unfold pN
    dsimp only
    rw [if_neg (wd_ne _ _), if_neg (by decide), if_pos rfl]
    rfl
  | n :: m :: ns, ts => by
    refine (pN_ok (ns := m :: ns) ts).s fun f h => ?_
    have h : pN f (commaK ((m :: ns).map fun s => [wd s.data.toList]) ++ kShut :: ts) = _ := h
    show pN (f + 1) (wd n.data.toList :: kComma :: (commaK ((m :: ns).map fun s => [wd s.data.toList]) ++ kShut :: ts)) = _
    unfold pN
    dsimp only
    rw [if_neg (wd_ne _ _), if_pos rfl, h]
    rfl
theorem map_tk {ks : List Tr} : (ks.map Tr.tk).map (·.1) = ks.map (·.tk.1) := by simp [Function.comp_def]
theorem q_7 {x : Tr} (hk : x.kind = 7) (hb : BareP x true true true false) (hn : x.kids.length = x.names.length) (h : QK x.kids) : QE x := by
  have ht : x.tk.1 = kBr :: (commaK (fieldK x.names (x.kids.map (·.tk.1))) ++ [kBrE]) := by rw [Tr.tk_eq, hk, ← map_tk]; rfl
  refine .ofAtom (by unfold Tr.rank; rw [hk]; rfl) (by omega) ⟨_, _, ht, by decide, by decide, by decide⟩ fun ts => (pO_ok hn h ts).s fun f h => ?_
  have h : pO f (commaK (fieldK x.names (x.kids.map (·.tk.1))) ++ kBrE :: ts) = _ := h
  show pA (f + 1) (x.tk.1 ++ ts) = _
  rw [ht, List.cons_append, List.append_assoc, List.singleton_append, flat_of hk (hb.1 rfl) (hb.2.1 rfl) (hb.2.2.1 rfl) rfl rfl]
  show ((pO f _).bind _) = _
  rw [h]
  rfl
theorem q_17 {x : Tr} (hk : x.kind = 17) (hb : BareP x false true true true) (h1 : 1 ≤ x.op) (h7 : x.op ≤ 7) (h : QK x.kids) : QE x := by
  have ht : x.tk.1 = ky (builtS x.op).data.toList :: kOpen :: (commaK (x.kids.map (·.tk.1)) ++ [kShut]) := by rw [Tr.tk_eq, hk, ← map_tk]; rfl
  have hb1 : eh (ky (builtS x.op).data.toList) = true ∧ ky (builtS x.op).data.toList ≠ kMinus ∧ ky (builtS x.op).data.toList ≠ kNot := by
    rcases seven h1 h7 with e | e | e | e | e | e | e <;> rw [e] <;> decide
  refine .ofAtom (by unfold Tr.rank; rw [hk]; rfl) (by omega) ⟨_, _, ht, hb1⟩ fun ts => (pL_ok h ts).s fun f h => ?_
  have h : pL f (commaK (x.kids.map (·.tk.1)) ++ kShut :: ts) = _ := h
  show pA (f + 1) (x.tk.1 ++ ts) = _
  rw [ht, List.cons_append, List.cons_append, List.append_assoc, List.singleton_append, flat_of hk rfl (hb.2.1 rfl) (hb.2.2.1 rfl) hb.nm rfl]
  generalize commaK (x.kids.map (·.tk.1)) ++ kShut :: ts = T at h ⊢
  rcases seven h1 h7 with e | e | e | e | e | e | e <;> rw [e] <;> (show ((pL f T).bind _) = _) <;> rw [h] <;> rfl
theorem q_9 {x y : Tr} (hk : x.kind = 9) (hb : BareP x false true true true) (ho : x.op = 1 ∨ x.op = 2) (hks : x.kids = [y]) (q : QE y) (hr : 1 ≤ y.rank) : QE x := by
  have e7 : x.rank = 7 := by unfold Tr.rank; rw [hk]; rfl
  rcases ho with ho | ho
  · have ht : x.tk.1 = kMinus :: atK 7 y y.tk.1 := by rw [Tr.tk_eq, hks, hk, ho]; rfl
    refine .of7 e7 ⟨_, _, ht, by decide⟩ fun ts hn => (q.at7 hr hn).s fun f h => ?_
    have h : pR f 7 (atK 7 y y.tk.1 ++ ts) = _ := h
    show pR (f + 1) 7 (x.tk.1 ++ ts) = _
    rw [ht, flat_of hk ho (hb.2.1 rfl) (hb.2.2.1 rfl) hb.nm (by rw [hks] <;> rfl)]
    show ((pR f 7 (atK 7 y y.tk.1 ++ ts)).bind _) = _
    rw [h]
    rfl
  · have ht : x.tk.1 = kNot :: atK 7 y y.tk.1 := by rw [Tr.tk_eq, hks, hk, ho]; rfl
    refine .of7 e7 ⟨_, _, ht, by decide⟩ fun ts hn => (q.at7 hr hn).s fun f h => ?_
    have h : pR f 7 (atK 7 y y.tk.1 ++ ts) = _ := h
    show pR (f + 1) 7 (x.tk.1 ++ ts) = _
    rw [ht, flat_of hk ho (hb.2.1 rfl) (hb.2.2.1 rfl) hb.nm (by rw [hks] <;> rfl)]
    show ((pR f 7 (atK 7 y y.tk.1 ++ ts)).bind _) = _
    rw [h]
    rfl
theorem q_bin {x y z : Tr} {m : Nat} {t : Tk} {k o : Int} (hop : opOf t = some (m, k, o)) (h1 : 1 ≤ m) (h6 : m ≤ 6) (hrank : x.rank = m) (htk : x.tk.1 = atK (m : Int) y y.tk.1 ++ t :: atK ((m : Int) + 1) z z.tk.1)
    (hflat : x.flat = .mk k o 0 noS [] [y.flat, z.flat] 0) (hp : t ≠ kDot ∧ t ≠ kSq ∧ t ≠ kOpen) (qy : QE y) (ry : 1 ≤ y.rank) (qz : QE z) (rz : 1 ≤ z.rank) : QE x := by
  obtain ⟨⟨t0, r0, e1, e2⟩, hy⟩ := qy.atR ry h1 h6
  refine .ofR hrank h1 h6 ⟨t0, _, by rw [htk, e1]; rfl, e2⟩ fun ts res hn hl hc => ?_
  rw [htk, List.append_assoc, List.cons_append]
  refine hy _ res (fun t' r e => by simp only [List.cons.injEq] at e; obtain ⟨rfl, -⟩ := e; exact hp) (fun t' r e q k o he => by simp only [List.cons.injEq] at e; obtain ⟨rfl, -⟩ := e; rw [hop] at he; simp only [Option.some.injEq, Prod.mk.injEq] at he; omega) ?_
  refine ((qz.atS rz h1 h6 hn hl).and hc).s fun f ⟨a1, a2⟩ => ?_
  have a1 : pR f (m + 1) (atK ((m : Int) + 1) z z.tk.1 ++ ts) = _ := a1
  have a2 : pC f m x.flat ts = _ := a2
  show pC (f + 1) m y.flat (t :: (atK ((m : Int) + 1) z z.tk.1 ++ ts)) = _
  unfold pC
  dsimp only
  rw [hop]
  dsimp only
  rw [if_pos rfl, a1, ← a2, hflat]
  rfl
theorem q_10 {x y z : Tr} (hk : x.kind = 10) (hb : BareP x false true true true) (h1 : 1 ≤ x.op) (h11 : x.op ≤ 11) (hks : x.kids = [y, z]) (qy : QE y) (ry : 1 ≤ y.rank) (qz : QE z) (rz : 1 ≤ z.rank) : QE x := by
  have hf : x.flat = .mk 10 x.op 0 noS [] [y.flat, z.flat] 0 := flat_of hk rfl (hb.2.1 rfl) (hb.2.2.1 rfl) hb.nm (by rw [hks] <;> rfl)
  have ht : x.tk.1 = atK (rankP 10 x.op) y y.tk.1 ++ sg (signT x.op).data.toList :: atK (rankP 10 x.op + 1) z z.tk.1 := by rw [Tr.tk_eq, hks, hk]; rfl
  have hr : x.rank = rankP 10 x.op := by unfold Tr.rank; rw [hk]
  rcases eleven h1 h11 with e | e | e | e | e | e | e | e | e | e | e <;> rw [e] at hf ht hr
  · exact q_bin (m := 5) (k := 10) (o := 1) (by decide) (by omega) (by omega) hr ht hf (by decide) qy ry qz rz
  · exact q_bin (m := 5) (k := 10) (o := 2) (by decide) (by omega) (by omega) hr ht hf (by decide) qy ry qz rz
  · exact q_bin (m := 6) (k := 10) (o := 3) (by decide) (by omega) (by omega) hr ht hf (by decide) qy ry qz rz
  · exact q_bin (m := 6) (k := 10) (o := 4) (by decide) (by omega) (by omega) hr ht hf (by decide) qy ry qz rz
  · exact q_bin (m := 6) (k := 10) (o := 5) (by decide) (by omega) (by omega) hr ht hf (by decide) qy ry qz rz
  · exact q_bin (m := 4) (k := 10) (o := 6) (by decide) (by omega) (by omega) hr ht hf (by decide) qy ry qz rz
  · exact q_bin (m := 4) (k := 10) (o := 7) (by decide) (by omega) (by omega) hr ht hf (by decide) qy ry qz rz
  · exact q_bin (m := 4) (k := 10) (o := 8) (by decide) (by omega) (by omega) hr ht hf (by decide) qy ry qz rz
  · exact q_bin (m := 4) (k := 10) (o := 9) (by decide) (by omega) (by omega) hr ht hf (by decide) qy ry qz rz
  · exact q_bin (m := 3) (k := 10) (o := 10) (by decide) (by omega) (by omega) hr ht hf (by decide) qy ry qz rz
  · exact q_bin (m := 3) (k := 10) (o := 11) (by decide) (by omega) (by omega) hr ht hf (by decide) qy ry qz rz
theorem q_11 {x y z : Tr} (hk : x.kind = 11 ∨ x.kind = 12) (hb : BareP x true true true true) (hks : x.kids = [y, z]) (qy : QE y) (ry : 1 ≤ y.rank) (qz : QE z) (rz : 1 ≤ z.rank) : QE x := by
  rcases hk with hk | hk
  · exact q_bin (m := 2) (t := sg [38, 38]) (k := 11) (o := 0) (by decide) (by omega) (by omega) (by unfold Tr.rank; rw [hk]; rfl) (by rw [Tr.tk_eq, hks, hk]; rfl) (flat_of hk (hb.1 rfl) (hb.2.1 rfl) (hb.2.2.1 rfl) hb.nm (by rw [hks] <;> rfl)) (by decide) qy ry qz rz
  · exact q_bin (m := 1) (t := sg [124, 124]) (k := 12) (o := 0) (by decide) (by omega) (by omega) (by unfold Tr.rank; rw [hk]; rfl) (by rw [Tr.tk_eq, hks, hk]; rfl) (flat_of hk (hb.1 rfl) (hb.2.1 rfl) (hb.2.2.1 rfl) hb.nm (by rw [hks] <;> rfl)) (by decide) qy ry qz rz
theorem q_13 {x y : Tr} (hk : x.kind = 13) (hb : BareP x true true false true) (hks : x.kids = [y]) (q : QE y) (ry : 1 ≤ y.rank) : QE x := by
  have ht : x.tk.1 = atK 8 y y.tk.1 ++ [kDot, wd x.str.data.toList] := by rw [Tr.tk_eq, hks, hk]; rfl
  obtain ⟨⟨t0, r0, e1, e2⟩, h8⟩ := q.at8 ry (least := 8) (by omega)
  refine .of8 (by unfold Tr.rank; rw [hk]; exact Int.le_refl _) ⟨t0, _, by rw [ht, e1]; rfl, e2⟩ fun ts res hno hp => ?_
  rw [ht, List.append_assoc]
  refine h8 _ res (fun _ _ t r e => by simp only [List.cons_append, List.cons.injEq] at e; obtain ⟨rfl, -⟩ := e; decide) (hp.s fun f h => ?_)
  have h : pP f x.flat ts = _ := h
  rw [flat_of hk (hb.1 rfl) (hb.2.1 rfl) rfl hb.nm (by rw [hks] <;> rfl)] at h
  show pP (f + 1) y.flat (kDot :: wd x.str.data.toList :: ts) = _
  unfold pP
  dsimp only
  rw [if_pos rfl]
  cases ts with
  | nil => exact h
  | cons b r =>
    dsimp only
    rw [if_neg (hno hk b r rfl)]
    exact h
theorem q_14 {x y z : Tr} (hk : x.kind = 14) (hb : BareP x true true true true) (hks : x.kids = [y, z]) (q : QE y) (ry : 1 ≤ y.rank) (qz : QE z) (rz : 1 ≤ z.rank) : QE x := by
  have ht : x.tk.1 = atK 8 y y.tk.1 ++ kSq :: (z.tk.1 ++ [kSqE]) := by rw [Tr.tk_eq, hks, hk]; rfl
  obtain ⟨⟨t0, r0, e1, e2⟩, h8⟩ := q.at8 ry (least := 8) (by omega)
  refine .of8 (by unfold Tr.rank; rw [hk]; exact Int.le_refl _) ⟨t0, _, by rw [ht, e1]; rfl, e2⟩ fun ts res _ hp => ?_
  rw [ht, List.append_assoc]
  refine h8 _ res (fun _ _ t r e => by simp only [List.cons_append, List.cons.injEq] at e; obtain ⟨rfl, -⟩ := e; decide) (((qz.fullE rz end_sq ts).and hp).s fun f ⟨h1, h2⟩ => ?_)
  have h1 : pR f 1 (z.tk.1 ++ kSqE :: ts) = _ := h1
  have h2 : pP f x.flat ts = _ := h2
  rw [flat_of hk (hb.1 rfl) (hb.2.1 rfl) (hb.2.2.1 rfl) hb.nm (by rw [hks] <;> rfl)] at h2
  show pP (f + 1) y.flat (kSq :: ((z.tk.1 ++ [kSqE]) ++ ts)) = _
  rw [List.append_assoc, List.singleton_append]
  show ((pR f 1 (z.tk.1 ++ kSqE :: ts)).bind _) = _
  rw [h1]
  exact h2
theorem q_15 {x y : Tr} {r : List Tr} (hk : x.kind = 15) (hb : BareP x true true true true) (hks : x.kids = y :: r) (q : QE y) (ry : 1 ≤ y.rank) (h : QK r) : QE x := by
  have ht : x.tk.1 = atK (if y.kind = 13 then 9 else 8) y y.tk.1 ++ kOpen :: (commaK (r.map (·.tk.1)) ++ [kShut]) := by rw [Tr.tk_eq, hks, hk, ← map_tk]; rfl
  obtain ⟨⟨t0, r0, e1, e2⟩, h8⟩ := q.at8 ry (least := if y.kind = 13 then 9 else 8) (by split <;> omega)
  refine .of8 (by unfold Tr.rank; rw [hk]; exact Int.le_refl _) ⟨t0, _, by rw [ht, e1]; rfl, e2⟩ fun ts res _ hp => ?_
  rw [ht, List.append_assoc]
  refine h8 _ res (fun hle h13 => by rw [if_pos h13] at hle; unfold Tr.rank at hle; rw [h13] at hle; exact absurd hle (by rw [show rankP 13 y.op = 8 from rfl]; omega)) (((pL_ok h ts).and hp).s fun f ⟨h1, h2⟩ => ?_)
  have h1 : pL f (commaK (r.map (·.tk.1)) ++ kShut :: ts) = _ := h1
  have h2 : pP f x.flat ts = _ := h2
  rw [flat_of hk (hb.1 rfl) (hb.2.1 rfl) (hb.2.2.1 rfl) hb.nm (by rw [hks] <;> rfl)] at h2
  show pP (f + 1) y.flat (kOpen :: ((commaK (r.map (·.tk.1)) ++ [kShut]) ++ ts)) = _
  rw [List.append_assoc, List.singleton_append]
  show ((pL f (commaK (r.map (·.tk.1)) ++ kShut :: ts)).bind _) = _
  rw [h1]
  exact h2
theorem q_16 {x y : Tr} {r : List Tr} (hk : x.kind = 16) (hb : BareP x true true false true) (hks : x.kids = y :: r) (q : QE y) (ry : 1 ≤ y.rank) (h : QK r) : QE x := by
  have ht : x.tk.1 = atK 8 y y.tk.1 ++ kDot :: wd x.str.data.toList :: kOpen :: (commaK (r.map (·.tk.1)) ++ [kShut]) := by rw [Tr.tk_eq, hks, hk, ← map_tk]; rfl
  obtain ⟨⟨t0, r0, e1, e2⟩, h8⟩ := q.at8 ry (least := 8) (by omega)
  refine .of8 (by unfold Tr.rank; rw [hk]; exact Int.le_refl _) ⟨t0, _, by rw [ht, e1]; rfl, e2⟩ fun ts res _ hp => ?_
  rw [ht, List.append_assoc]
  refine h8 _ res (fun _ _ t r e => by simp only [List.cons_append, List.cons.injEq] at e; obtain ⟨rfl, -⟩ := e; decide) (((pL_ok h ts).and hp).s fun f ⟨h1, h2⟩ => ?_)
  have h1 : pL f (commaK (r.map (·.tk.1)) ++ kShut :: ts) = _ := h1
  have h2 : pP f x.flat ts = _ := h2
  rw [flat_of hk (hb.1 rfl) (hb.2.1 rfl) rfl hb.nm (by rw [hks] <;> rfl)] at h2
  show pP (f + 1) y.flat (kDot :: wd x.str.data.toList :: kOpen :: ((commaK (r.map (·.tk.1)) ++ [kShut]) ++ ts)) = _
  rw [List.append_assoc, List.singleton_append]
  show ((pL f (commaK (r.map (·.tk.1)) ++ kShut :: ts)).bind _) = _
  rw [h1]
  exact h2
end Go.Proofs.Ytmglmjbjgfbdjaa
/- The reader reads a tree's tokens: statements, plainly. -/
set_option linter.unusedVariables false
set_option linter.unusedSimpArgs false
set_option maxRecDepth 20000
set_option maxHeartbeats 8000000
namespace Go.Proofs.Ytmglmjbjgfbdjaa
open Go Ax
abbrev kElse : Tk := ky [101, 108, 115, 101]
def noElse (ts : List Tk) : Prop := ∀ t r, ts = t :: r → t ≠ kElse
structure QS (x : Tr) : Prop where
  head : ∃ t r, x.tk.2.1 = t :: r ∧ t ≠ kBrE ∧ t ≠ kElse
  ok : ∀ ts, noElse ts → Ev fun f => pS f (x.tk.2.1 ++ ts) = some (x.flat, ts)
theorem noElse.cons {t : Tk} (h : t ≠ kElse) (ts : List Tk) : noElse (t :: ts) := fun t' r e => by simp only [List.cons.injEq] at e; obtain ⟨rfl, -⟩ := e; exact h
theorem noElse.stmts {ks : List Tr} (h : ∀ y ∈ ks, QS y) {ts : List Tk} (hts : noElse ts) : noElse ((ks.map (·.tk.2.1)).flatten ++ ts) := by
  cases ks with
  | nil => exact hts
  | cons y ks =>
    obtain ⟨t, r, e1, -, e3⟩ := (h y (by simp)).head
    rw [List.map_cons, List.flatten_cons, e1]
    exact .cons e3 _
theorem pB_ok : ∀ {ks : List Tr}, (∀ y ∈ ks, QS y) → ∀ ts, Ev fun f => pB f ((ks.map (·.tk.2.1)).flatten ++ kBrE :: ts) = some (ks.map Tr.flat, ts)
  | [], _, ts => Ev.a fun f => rfl
  | y :: ks, h, ts => by
    have hy := h y (by simp)
    have hks : ∀ z ∈ ks, QS z := fun z hz => h z (List.mem_cons_of_mem _ hz)
    obtain ⟨t, r, e1, e2, -⟩ := hy.head
    refine ((hy.ok ((ks.map (·.tk.2.1)).flatten ++ kBrE :: ts) (.stmts hks (.cons (by decide) _))).and (pB_ok hks ts)).s fun f ⟨h1, h2⟩ => ?_
    show pB (f + 1) ((y.tk.2.1 ++ (ks.map (·.tk.2.1)).flatten) ++ kBrE :: ts) = _
    rw [List.append_assoc]
    have h1 : pS f (y.tk.2.1 ++ ((ks.map (·.tk.2.1)).flatten ++ kBrE :: ts)) = _ := h1
    have h2 : pB f ((ks.map (·.tk.2.1)).flatten ++ kBrE :: ts) = _ := h2
    generalize (ks.map (·.tk.2.1)).flatten ++ kBrE :: ts = T at h1 h2 ⊢
    rw [e1] at h1 ⊢
    rw [List.cons_append] at h1 ⊢
    unfold pB
    dsimp only
    rw [if_neg e2, h1, Option.bind_some]
    dsimp only
    rw [h2]
    rfl
theorem pT_ok : ∀ {ks : List Tr}, (∀ y ∈ ks, QS y) → Ev fun f => pT f (ks.map (·.tk.2.1)).flatten = some (ks.map Tr.flat)
  | [], _ => Ev.a fun f => rfl
  | y :: ks, h => by
    have hy := h y (by simp)
    have hks : ∀ z ∈ ks, QS z := fun z hz => h z (List.mem_cons_of_mem _ hz)
    obtain ⟨t, r, e1, -, -⟩ := hy.head
    have hn : noElse ((ks.map (·.tk.2.1)).flatten) := by
      have := noElse.stmts hks (ts := []) (fun t r e => by simp at e)
      rwa [List.append_nil] at this
    refine ((hy.ok _ hn).and (pT_ok hks)).s fun f ⟨h1, h2⟩ => ?_
    show pT (f + 1) (y.tk.2.1 ++ (ks.map (·.tk.2.1)).flatten) = _
    have h1 : pS f (y.tk.2.1 ++ (ks.map (·.tk.2.1)).flatten) = _ := h1
    have h2 : pT f (ks.map (·.tk.2.1)).flatten = _ := h2
    generalize (ks.map (·.tk.2.1)).flatten = T at h1 h2 ⊢
    rw [e1] at h1 ⊢
    rw [List.cons_append] at h1 ⊢
    unfold pT
    dsimp only
    rw [h1, Option.bind_some]
    dsimp only
    rw [h2]
    rfl
theorem map_tk2 {ks : List Tr} : (ks.map Tr.tk).map (·.2.1) = ks.map (·.tk.2.1) := by simp [Function.comp_def]
theorem q_8 {x : Tr} (hk : x.kind = 8) (hb : BareP x true true true false) (h : ∀ y ∈ x.kids, QS y) : QE x := by
  have ht : x.tk.1 = ky [102, 110] :: kOpen :: (commaK (x.names.map fun s => [wd s.data.toList]) ++ kShut :: kBr :: ((x.kids.map (·.tk.2.1)).flatten ++ [kBrE])) := by rw [Tr.tk_eq, hk, ← map_tk2]; rfl
  refine .ofAtom (by unfold Tr.rank; rw [hk]; rfl) (by omega) ⟨_, _, ht, by decide, by decide, by decide⟩ fun ts => ((pN_ok (ns := x.names) (kBr :: ((x.kids.map (·.tk.2.1)).flatten ++ kBrE :: ts))).and (pB_ok h ts)).s fun f ⟨h1, h2⟩ => ?_
  have h1 : pN f (commaK (x.names.map fun s => [wd s.data.toList]) ++ kShut :: kBr :: ((x.kids.map (·.tk.2.1)).flatten ++ kBrE :: ts)) = _ := h1
  have h2 : pB f ((x.kids.map (·.tk.2.1)).flatten ++ kBrE :: ts) = _ := h2
  show pA (f + 1) (x.tk.1 ++ ts) = _
  rw [ht, flat_of hk (hb.1 rfl) (hb.2.1 rfl) (hb.2.2.1 rfl) rfl rfl]
  rw [show (ky [102, 110] :: kOpen :: (commaK (x.names.map fun s => [wd s.data.toList]) ++ kShut :: kBr :: ((x.kids.map (·.tk.2.1)).flatten ++ [kBrE]))) ++ ts = ky [102, 110] :: kOpen :: (commaK (x.names.map fun s => [wd s.data.toList]) ++ kShut :: kBr :: ((x.kids.map (·.tk.2.1)).flatten ++ kBrE :: ts)) from by simp]
  show ((pN f _).bind _) = _
  rw [h1]
  show ((pB f _).bind _) = _
  rw [h2]
  rfl
/-- A block: what lies in it. -/
structure QB (x : Tr) : Prop where
  flat : x.flat = .mk 29 0 0 noS [] (x.kids.map Tr.flat) 0
  kids : ∀ y ∈ x.kids, QS y
theorem QB.tk (x : Tr) : x.tk.2.2 = kBr :: ((x.kids.map (·.tk.2.1)).flatten ++ [kBrE]) := by rw [Tr.tk_eq]; rfl
theorem pS_expr {t : Tk} (h : eh t = true) (f : Nat) (ts : List Tk) : pS (f + 1) (t :: ts) = (pR f 1 (t :: ts)).bind fun p =>
    match p.2 with
    | [] => none
    | c :: r => if c = kEq then (pR f 1 r).bind fun v => eat kSemi (if p.1.kind = 5 then .mk 22 0 0 p.1.str [] [v.1] 0 else if p.1.kind = 13 then .mk 23 0 0 p.1.str [] (p.1.kids ++ [v.1]) 0 else .mk 24 0 0 noS [] (p.1.kids ++ [v.1]) 0) v.2
      else if c = kSemi then some (.mk 32 0 0 noS [] [p.1] 0, r) else none := by
  conv => lhs; unfold pS
  dsimp only
  rw [if_neg (eh_ne h (by decide)), if_neg (eh_ne h (by decide)), if_neg (eh_ne h (by decide)), if_neg (eh_ne h (by decide)), if_neg (eh_ne h (by decide)), if_neg (eh_ne h (by decide))] <;> rfl
theorem eh_stmt {t : Tk} (h : eh t = true) : t ≠ kBrE ∧ t ≠ kElse := ⟨eh_ne h (by decide), eh_ne h (by decide)⟩
theorem s_32 {x y : Tr} (hk : x.kind = 32) (hb : BareP x true true true true) (hks : x.kids = [y]) (q : QE y) (ry : 1 ≤ y.rank) : QS x := by
  have ht : x.tk.2.1 = y.tk.1 ++ [kSemi] := by rw [Tr.tk_eq, hks, hk]; rfl
  obtain ⟨t, r, e1, e2, -⟩ := q.head
  refine ⟨⟨t, _, by rw [ht, e1]; rfl, eh_stmt e2⟩, fun ts _ => (q.fullE ry end_semi ts).s fun f h => ?_⟩
  have h : pR f 1 (y.tk.1 ++ kSemi :: ts) = _ := h
  show pS (f + 1) (x.tk.2.1 ++ ts) = _
  rw [ht, List.append_assoc, List.singleton_append, flat_of hk (hb.1 rfl) (hb.2.1 rfl) (hb.2.2.1 rfl) hb.nm (by rw [hks] <;> rfl)]
  rw [e1, List.cons_append] at h ⊢
  rw [pS_expr e2, h, Option.bind_some]
  rfl
/-- A value is set to a place. -/
theorem s_set {x g v : Tr} {w : Tr} (hg : QE g) (rg : 1 ≤ g.rank) (qv : QE v) (rv : 1 ≤ v.rank) (ht : x.tk.2.1 = g.tk.1 ++ kEq :: (v.tk.1 ++ [kSemi]))
    (hf : x.flat = if g.flat.kind = 5 then .mk 22 0 0 g.flat.str [] [v.flat] 0 else if g.flat.kind = 13 then .mk 23 0 0 g.flat.str [] (g.flat.kids ++ [v.flat]) 0 else .mk 24 0 0 noS [] (g.flat.kids ++ [v.flat]) 0) : QS x := by
  obtain ⟨t, r, e1, e2, -⟩ := hg.head
  refine ⟨⟨t, _, by rw [ht, e1]; rfl, eh_stmt e2⟩, fun ts _ => ((hg.fullE rg end_eq (v.tk.1 ++ kSemi :: ts)).and (qv.fullE rv end_semi ts)).s fun f ⟨h, h2⟩ => ?_⟩
  have h : pR f 1 (g.tk.1 ++ kEq :: (v.tk.1 ++ kSemi :: ts)) = _ := h
  have h2 : pR f 1 (v.tk.1 ++ kSemi :: ts) = _ := h2
  show pS (f + 1) (x.tk.2.1 ++ ts) = _
  rw [ht, hf, show (g.tk.1 ++ kEq :: (v.tk.1 ++ [kSemi])) ++ ts = g.tk.1 ++ kEq :: (v.tk.1 ++ kSemi :: ts) from by simp]
  rw [e1, List.cons_append] at h ⊢
  rw [pS_expr e2, h, Option.bind_some]
  dsimp only
  rw [if_pos rfl, h2, Option.bind_some]
  dsimp only
  rw [eat, if_pos rfl]
theorem s_22 {x y : Tr} (hk : x.kind = 22) (hb : BareP x true true false true) (hkey : keyS x.str.data.toList = false) (hks : x.kids = [y]) (q : QE y) (ry : 1 ≤ y.rank) : QS x := by
  have hg : QE (.mk 5 0 0 x.str [] [] 0) := q_5 rfl ⟨fun _ => rfl, fun _ => rfl, fun h => by simp at h, fun _ => rfl⟩ hkey rfl
  refine s_set (w := x) hg (by show (1 : Int) ≤ 9; omega) q ry (by rw [Tr.tk_eq, hks, hk]; rfl) ?_
  rw [flat_of hk (hb.1 rfl) (hb.2.1 rfl) rfl hb.nm (by rw [hks] <;> rfl)]
  rfl
theorem s_23 {x y z : Tr} (hk : x.kind = 23) (hb : BareP x true true false true) (hks : x.kids = [y, z]) (q : QE y) (ry : 1 ≤ y.rank) (qz : QE z) (rz : 1 ≤ z.rank) : QS x := by
  have hg : QE (.mk 13 0 0 x.str [] [y] 0) := q_13 rfl ⟨fun _ => rfl, fun _ => rfl, fun h => by simp at h, fun _ => rfl⟩ rfl q ry
  refine s_set (w := x) hg (by show (1 : Int) ≤ 8; omega) qz rz ?_ ?_
  · have e1 : (Tr.mk 13 0 0 x.str [] [y] 0).tk.1 = atK 8 y y.tk.1 ++ [kDot, wd x.str.data.toList] := rfl
    rw [e1, Tr.tk_eq, hks, hk, List.append_assoc]; rfl
  · rw [flat_of hk (hb.1 rfl) (hb.2.1 rfl) rfl hb.nm (by rw [hks] <;> rfl)]
    rfl
theorem s_24 {x y z u : Tr} (hk : x.kind = 24) (hb : BareP x true true true true) (hks : x.kids = [y, z, u]) (q : QE y) (ry : 1 ≤ y.rank) (qz : QE z) (rz : 1 ≤ z.rank) (qu : QE u) (ru : 1 ≤ u.rank) : QS x := by
  have hg : QE (.mk 14 0 0 noS [] [y, z] 0) := q_14 rfl ⟨fun _ => rfl, fun _ => rfl, fun _ => rfl, fun _ => rfl⟩ rfl q ry qz rz
  refine s_set (w := x) hg (by show (1 : Int) ≤ 8; omega) qu ru ?_ ?_
  · have e1 : (Tr.mk 14 0 0 noS [] [y, z] 0).tk.1 = atK 8 y y.tk.1 ++ kSq :: (z.tk.1 ++ [kSqE]) := rfl
    rw [e1, Tr.tk_eq, hks, hk]
    show atK 8 y y.tk.1 ++ kSq :: (z.tk.1 ++ kSqE :: kEq :: (u.tk.1 ++ [kSemi])) = _
    simp
  · rw [flat_of hk (hb.1 rfl) (hb.2.1 rfl) (hb.2.2.1 rfl) hb.nm (by rw [hks] <;> rfl)]
    rfl
/-- Keys ahead of an expression. -/
theorem s_key {x y : Tr} {k : Int} {key : Bs} (hkey : key = [112, 114, 105, 110, 116] ∧ k = 27 ∨ key = [114, 101, 116, 117, 114, 110] ∧ k = 31) (hk : x.kind = k) (hb : BareP x true true true true) (hks : x.kids = [y]) (q : QE y) (ry : 1 ≤ y.rank) : QS x := by
  have hf := flat_of hk (hb.1 rfl) (hb.2.1 rfl) (hb.2.2.1 rfl) hb.nm (by rw [hks])
  rcases hkey with ⟨rfl, rfl⟩ | ⟨rfl, rfl⟩
  all_goals
    refine ⟨⟨_, _, by rw [Tr.tk_eq, hks, hk]; rfl, by decide, by decide⟩, fun ts _ => (q.fullE ry end_semi ts).s fun f h => ?_⟩
    have h : pR f 1 (y.tk.1 ++ kSemi :: ts) = _ := h
    show pS (f + 1) (x.tk.2.1 ++ ts) = _
    rw [hf]
  · have ht : x.tk.2.1 = ky [112, 114, 105, 110, 116] :: (y.tk.1 ++ [kSemi]) := by rw [Tr.tk_eq, hks, hk]; rfl
    rw [ht, List.cons_append, List.append_assoc, List.singleton_append]
    show ((pR f 1 _).bind _) = _
    rw [h]
    rfl
  · have ht : x.tk.2.1 = ky [114, 101, 116, 117, 114, 110] :: (y.tk.1 ++ [kSemi]) := by rw [Tr.tk_eq, hks, hk]; rfl
    rw [ht, List.cons_append, List.append_assoc, List.singleton_append]
    show ((pR f 1 _).bind _) = _
    rw [h]
    rfl
theorem s_21 {x y : Tr} (hk : x.kind = 21) (hb : BareP x true true false true) (hks : x.kids = [y]) (q : QE y) (ry : 1 ≤ y.rank) : QS x := by
  have ht : x.tk.2.1 = ky [108, 101, 116] :: wd x.str.data.toList :: kEq :: (y.tk.1 ++ [kSemi]) := by rw [Tr.tk_eq, hks, hk]; rfl
  refine ⟨⟨_, _, ht, by decide, by decide⟩, fun ts _ => (q.fullE ry end_semi ts).s fun f h => ?_⟩
  have h : pR f 1 (y.tk.1 ++ kSemi :: ts) = _ := h
  show pS (f + 1) (x.tk.2.1 ++ ts) = _
  rw [flat_of hk (hb.1 rfl) (hb.2.1 rfl) rfl hb.nm (by rw [hks]), ht, show (ky [108, 101, 116] :: wd x.str.data.toList :: kEq :: (y.tk.1 ++ [kSemi])) ++ ts = ky [108, 101, 116] :: wd x.str.data.toList :: kEq :: (y.tk.1 ++ kSemi :: ts) from by simp]
  show ((pR f 1 _).bind _) = _
  rw [h]
  rfl
theorem s_del {x g : Tr} (hg : QE g) (rg : 8 ≤ g.rank) (ht : x.tk.2.1 = ky [100, 101, 108, 101, 116, 101] :: (g.tk.1 ++ [kSemi]))
    (hf : x.flat = if g.flat.kind = 13 then .mk 25 0 0 g.flat.str [] g.flat.kids 0 else .mk 26 0 0 noS [] g.flat.kids 0) : QS x := by
  refine ⟨⟨_, _, ht, by decide, by decide⟩, fun ts _ => (hg.p8 rg (kSemi :: ts) (g.flat, kSemi :: ts) (fun _ => (end_semi.post ts).open) (pP_stop (end_semi.post ts) _)).s fun f h => ?_⟩
  have h : pR f 8 (g.tk.1 ++ kSemi :: ts) = _ := h
  show pS (f + 1) (x.tk.2.1 ++ ts) = _
  rw [hf, ht, List.cons_append, List.append_assoc, List.singleton_append]
  show ((pR f 8 _).bind _) = _
  rw [h]
  rfl
theorem s_25 {x y : Tr} (hk : x.kind = 25) (hb : BareP x true true false true) (hks : x.kids = [y]) (q : QE y) (ry : 1 ≤ y.rank) : QS x := by
  have hg : QE (.mk 13 0 0 x.str [] [y] 0) := q_13 rfl ⟨fun _ => rfl, fun _ => rfl, fun h => by simp at h, fun _ => rfl⟩ rfl q ry
  refine s_del hg (by show (8 : Int) ≤ 8; omega) ?_ ?_
  · have e1 : (Tr.mk 13 0 0 x.str [] [y] 0).tk.1 = atK 8 y y.tk.1 ++ [kDot, wd x.str.data.toList] := rfl
    rw [e1, Tr.tk_eq, hks, hk, List.append_assoc]; rfl
  · rw [flat_of hk (hb.1 rfl) (hb.2.1 rfl) rfl hb.nm (by rw [hks] <;> rfl)]
    rfl
theorem s_26 {x y z : Tr} (hk : x.kind = 26) (hb : BareP x true true true true) (hks : x.kids = [y, z]) (q : QE y) (ry : 1 ≤ y.rank) (qz : QE z) (rz : 1 ≤ z.rank) : QS x := by
  have hg : QE (.mk 14 0 0 noS [] [y, z] 0) := q_14 rfl ⟨fun _ => rfl, fun _ => rfl, fun _ => rfl, fun _ => rfl⟩ rfl q ry qz rz
  refine s_del hg (by show (8 : Int) ≤ 8; omega) ?_ ?_
  · have e1 : (Tr.mk 14 0 0 noS [] [y, z] 0).tk.1 = atK 8 y y.tk.1 ++ kSq :: (z.tk.1 ++ [kSqE]) := rfl
    rw [e1, Tr.tk_eq, hks, hk]
    show ky [100, 101, 108, 101, 116, 101] :: (atK 8 y y.tk.1 ++ kSq :: (z.tk.1 ++ [kSqE, kSemi])) = _
    simp
  · rw [flat_of hk (hb.1 rfl) (hb.2.1 rfl) (hb.2.2.1 rfl) hb.nm (by rw [hks] <;> rfl)]
    rfl
theorem s_30 {x y z : Tr} (hk : x.kind = 30) (hb : BareP x true true true true) (hks : x.kids = [y, z]) (q : QE y) (ry : 1 ≤ y.rank) (bz : QB z) : QS x := by
  have ht : x.tk.2.1 = ky [119, 104, 105, 108, 101] :: kOpen :: (y.tk.1 ++ kShut :: kBr :: ((z.kids.map (·.tk.2.1)).flatten ++ [kBrE])) := by rw [Tr.tk_eq, hks, hk, ← QB.tk]; rfl
  refine ⟨⟨_, _, ht, by decide, by decide⟩, fun ts _ => ((q.fullE ry end_shut (kBr :: ((z.kids.map (·.tk.2.1)).flatten ++ kBrE :: ts))).and (pB_ok bz.kids ts)).s fun f ⟨h1, h2⟩ => ?_⟩
  have h1 : pR f 1 (y.tk.1 ++ kShut :: kBr :: ((z.kids.map (·.tk.2.1)).flatten ++ kBrE :: ts)) = _ := h1
  have h2 : pB f ((z.kids.map (·.tk.2.1)).flatten ++ kBrE :: ts) = _ := h2
  show pS (f + 1) (x.tk.2.1 ++ ts) = _
  rw [flat_of hk (hb.1 rfl) (hb.2.1 rfl) (hb.2.2.1 rfl) hb.nm (L := [y.flat, z.flat]) (by rw [hks] <;> rfl), bz.flat, ht, show (ky [119, 104, 105, 108, 101] :: kOpen :: (y.tk.1 ++ kShut :: kBr :: ((z.kids.map (·.tk.2.1)).flatten ++ [kBrE]))) ++ ts = ky [119, 104, 105, 108, 101] :: kOpen :: (y.tk.1 ++ kShut :: kBr :: ((z.kids.map (·.tk.2.1)).flatten ++ kBrE :: ts)) from by simp]
  show ((pR f 1 _).bind _) = _
  rw [h1]
  show ((pB f _).bind _) = _
  rw [h2]
  rfl
theorem s_28 {x y z u : Tr} (hk : x.kind = 28) (hb : BareP x true true true true) (hks : x.kids = [y, z, u]) (q : QE y) (ry : 1 ≤ y.rank) (bz : QB z) (bu : QB u) : QS x := by
  have hf := flat_of hk (hb.1 rfl) (hb.2.1 rfl) (hb.2.2.1 rfl) hb.nm (L := [y.flat, z.flat, u.flat]) (by rw [hks] <;> rfl)
  rw [bz.flat, bu.flat] at hf
  by_cases hu : u.kids = []
  · have ht : x.tk.2.1 = ky [105, 102] :: kOpen :: (y.tk.1 ++ kShut :: kBr :: ((z.kids.map (·.tk.2.1)).flatten ++ [kBrE])) := by
      have : x.tk.2.1 = ky [105, 102] :: kOpen :: (y.tk.1 ++ kShut :: (z.tk.2.2 ++ (if u.kids = [] then [] else kElse :: u.tk.2.2))) := by rw [Tr.tk_eq, hks, hk]; rfl
      rw [this, if_pos hu, List.append_nil, QB.tk]
    rw [hu] at hf
    refine ⟨⟨_, _, ht, by decide, by decide⟩, fun ts hne => ((q.fullE ry end_shut (kBr :: ((z.kids.map (·.tk.2.1)).flatten ++ kBrE :: ts))).and (pB_ok bz.kids ts)).s fun f ⟨h1, h2⟩ => ?_⟩
    have h1 : pR f 1 (y.tk.1 ++ kShut :: kBr :: ((z.kids.map (·.tk.2.1)).flatten ++ kBrE :: ts)) = _ := h1
    have h2 : pB f ((z.kids.map (·.tk.2.1)).flatten ++ kBrE :: ts) = _ := h2
    show pS (f + 1) (x.tk.2.1 ++ ts) = _
    rw [hf, ht, show (ky [105, 102] :: kOpen :: (y.tk.1 ++ kShut :: kBr :: ((z.kids.map (·.tk.2.1)).flatten ++ [kBrE]))) ++ ts = ky [105, 102] :: kOpen :: (y.tk.1 ++ kShut :: kBr :: ((z.kids.map (·.tk.2.1)).flatten ++ kBrE :: ts)) from by simp]
    show ((pR f 1 _).bind _) = _
    rw [h1]
    show ((pB f _).bind _) = _
    rw [h2, Option.bind_some]
    cases ts with
    | nil => rfl
    | cons e r =>
      dsimp only
      rw [if_neg (hne e r rfl)]
      rfl
  · have ht : x.tk.2.1 = ky [105, 102] :: kOpen :: (y.tk.1 ++ kShut :: kBr :: ((z.kids.map (·.tk.2.1)).flatten ++ kBrE :: kElse :: kBr :: ((u.kids.map (·.tk.2.1)).flatten ++ [kBrE]))) := by
      have : x.tk.2.1 = ky [105, 102] :: kOpen :: (y.tk.1 ++ kShut :: (z.tk.2.2 ++ (if u.kids = [] then [] else kElse :: u.tk.2.2))) := by rw [Tr.tk_eq, hks, hk]; rfl
      rw [this, if_neg hu, QB.tk, QB.tk]; simp
    refine ⟨⟨_, _, ht, by decide, by decide⟩, fun ts _ => (((q.fullE ry end_shut (kBr :: ((z.kids.map (·.tk.2.1)).flatten ++ kBrE :: kElse :: kBr :: ((u.kids.map (·.tk.2.1)).flatten ++ kBrE :: ts)))).and (pB_ok bz.kids (kElse :: kBr :: ((u.kids.map (·.tk.2.1)).flatten ++ kBrE :: ts)))).and (pB_ok bu.kids ts)).s fun f ⟨⟨h1, h2⟩, h3⟩ => ?_⟩
    have h1 : pR f 1 (y.tk.1 ++ kShut :: kBr :: ((z.kids.map (·.tk.2.1)).flatten ++ kBrE :: kElse :: kBr :: ((u.kids.map (·.tk.2.1)).flatten ++ kBrE :: ts))) = _ := h1
    have h2 : pB f ((z.kids.map (·.tk.2.1)).flatten ++ kBrE :: kElse :: kBr :: ((u.kids.map (·.tk.2.1)).flatten ++ kBrE :: ts)) = _ := h2
    have h3 : pB f ((u.kids.map (·.tk.2.1)).flatten ++ kBrE :: ts) = _ := h3
    show pS (f + 1) (x.tk.2.1 ++ ts) = _
    rw [hf, ht, show (ky [105, 102] :: kOpen :: (y.tk.1 ++ kShut :: kBr :: ((z.kids.map (·.tk.2.1)).flatten ++ kBrE :: kElse :: kBr :: ((u.kids.map (·.tk.2.1)).flatten ++ [kBrE])))) ++ ts = ky [105, 102] :: kOpen :: (y.tk.1 ++ kShut :: kBr :: ((z.kids.map (·.tk.2.1)).flatten ++ kBrE :: kElse :: kBr :: ((u.kids.map (·.tk.2.1)).flatten ++ kBrE :: ts))) from by simp]
    show ((pR f 1 _).bind _) = _
    rw [h1]
    show ((pB f _).bind _) = _
    rw [h2, Option.bind_some]
    dsimp only
    rw [if_pos rfl]
    show ((pB f _).bind _) = _
    rw [h3]
    rfl
end Go.Proofs.Ytmglmjbjgfbdjaa
/- Plain facts of one token (out of chapter 5's texts; printed by mkTa5.py). -/
set_option linter.unusedVariables false
set_option linter.unusedSimpArgs false
set_option maxRecDepth 20000
set_option maxHeartbeats 8000000
namespace Go.Proofs.Ytmglmjbjgfbdjaa
open Go Ax
def wordK (w : Bs) : Int := if keyS w = true then 2 else if nameS w = true then 1 else 0
theorem one_word {r : Bs} {c : UInt8} {q : Bs} (h : r = c :: q) (hl : letB c = true) : oneL r = if wordK (r.takeWhile wordB) = 0 then .err 0 11 else .tok (wordK (r.takeWhile wordB)) (r.takeWhile wordB) 0 (r.takeWhile wordB).length := by
  subst h
  show (if letB c = true then _ else _) = _
  rw [if_pos hl]
  unfold wordK
  split
  · rfl
  · split
    · rfl
    · rfl
theorem one_num {r : Bs} {c : UInt8} {q : Bs} (h : r = c :: q) (hl : ¬ letB c = true) (hd : digB c = true) :
    oneL r = if (readS (r.takeWhile digB)).2 = 0 then .tok 3 (decL (readS (r.takeWhile digB)).1.toNat) (readS (r.takeWhile digB)).1 (r.takeWhile digB).length else .err 0 (readS (r.takeWhile digB)).2 := by
  subst h
  show (if letB c = true then _ else if digB c = true then _ else _) = _
  rw [if_neg hl, if_pos hd]
theorem one_str {r : Bs} {c : UInt8} {q : Bs} (h : r = c :: q) (hl : ¬ letB c = true) (hd : ¬ digB c = true) (hc : c = 34) :
    oneL r = if (takeS r).2.2 = 0 then (if 256 < (takeS r).1.length then .err 0 3 else .tok 4 (takeS r).1 0 (takeS r).2.1) else .err (takeS r).2.1 (takeS r).2.2 := by
  subst h
  show (if letB c = true then _ else if digB c = true then _ else if c = 34 then _ else _) = _
  rw [if_neg hl, if_neg hd, if_pos hc]
theorem one_sign {r : Bs} {c : UInt8} {q : Bs} (h : r = c :: q) (hl : ¬ letB c = true) (hd : ¬ digB c = true) (hc : ¬ c = 34) : oneL r = if signS r = [] then .err 0 11 else .tok 5 (signS r) 0 (signS r).length := by
  subst h
  show (if letB c = true then _ else if digB c = true then _ else if c = 34 then _ else _) = _
  rw [if_neg hl, if_neg hd, if_neg hc]
theorem skip_no {c : UInt8} {r : Bs} (h : ¬ (c = 32 ∨ c = 10 ∨ c = 9)) (h2 : ¬ (c = 47 ∧ r.head? = some 47)) : skipL false (c :: r) = c :: r := by
  show (if c = 47 ∧ r.head? = some 47 then _ else if _ then _ else _) = _
  rw [if_neg h2, if_neg h]
theorem tw_all {p : UInt8 → Bool} {c : UInt8} {R : Bs} (hc : p c = false) : ∀ {w : Bs}, (∀ x ∈ w, p x = true) → (w ++ c :: R).takeWhile p = w
  | [], _ => by rw [List.nil_append, List.takeWhile_cons_of_neg (by simp [hc])]
  | x :: w, h => by
    rw [List.cons_append, List.takeWhile_cons_of_pos (h x (by simp)), tw_all hc fun y hy => h y (by simp [hy])]
def valF (m : Int) : Bs → Int
  | [] => m
  | c :: r => valF (m * 10 + ((c.toNat : Int) - 48)) r
theorem val_ge : ∀ (L : Bs) (m : Int), 0 ≤ m → (∀ c ∈ L, digB c = true) → m ≤ valF m L
  | [], m, _, _ => Int.le_refl _
  | c :: r, m, h0, h => by
    have hd := digB_iff.1 (h c (by simp))
    have := val_ge r (m * 10 + ((c.toNat : Int) - 48)) (by omega) fun x hx => h x (by simp [hx])
    show m ≤ valF (m * 10 + ((c.toNat : Int) - 48)) r
    omega
theorem readF_val : ∀ (L : Bs) (m : Int), 0 ≤ m → (∀ c ∈ L, digB c = true) → valF m L ≤ mostN → readF L m false = (valF m L, 0)
  | [], m, _, _, _ => rfl
  | c :: r, m, h0, h, hv => by
    have hdc := h c (by simp)
    have hd := digB_iff.1 hdc
    have hr : ∀ x ∈ r, digB x = true := fun x hx => h x (by simp [hx])
    have hv' : valF (m * 10 + ((c.toNat : Int) - 48)) r ≤ mostN := hv
    have hge := val_ge r (m * 10 + ((c.toNat : Int) - 48)) (by omega) hr
    show (if digB c = true then _ else _) = _
    rw [if_pos hdc, if_neg]
    · exact readF_val r _ (by omega) hr hv'
    · rintro (h1 | h1)
      · simp at h1
      · have e : (mostN - ((c.toNat : Int) - 48)).tdiv 10 = (mostN - ((c.toNat : Int) - 48)) / 10 := Int.tdiv_eq_ediv_of_nonneg (by unfold mostN; omega)
        rw [e] at h1
        unfold mostN at *
        omega
theorem digN_dig (n : Nat) : digB (digN n) = true := by
  rw [digB_iff, digN_nat]
  omega
theorem decF_dig : ∀ (f n : Nat) (acc : Bs), (∀ c ∈ acc, digB c = true) → ∀ c ∈ decF f n acc, digB c = true
  | 0, n, acc, h, c, hc => h c hc
  | f + 1, n, acc, h, c, hc => by
    rw [decF_step] at hc
    have h' : ∀ c ∈ digN n :: acc, digB c = true := fun c hc => by
      rcases List.mem_cons.1 hc with rfl | hc
      · exact digN_dig n
      · exact h c hc
    split at hc
    · exact h' c hc
    · exact decF_dig f (n / 10) _ h' c hc
theorem decF_val : ∀ (f n : Nat) (acc : Bs), n < 10 ^ f → 1 ≤ f → valF 0 (decF f n acc) = valF (n : Int) acc
  | 0, n, acc, h, h1 => by omega
  | f + 1, n, acc, h, _ => by
    rw [decF_step]
    have hn := digN_nat n
    split
    · show valF (0 * 10 + (((digN n).toNat : Int) - 48)) acc = _
      congr 1
      omega
    · have hp := pow_div h
      rw [decF_val f (n / 10) _ hp (by
        refine Decidable.byContradiction fun hc => ?_
        rw [show f = 0 by omega] at hp
        omega)]
      show valF (((n / 10 : Nat) : Int) * 10 + (((digN n).toNat : Int) - 48)) acc = _
      congr 1
      omega
theorem decF_ne : ∀ (f n : Nat) (acc : Bs), 1 ≤ f → decF f n acc ≠ []
  | 0, n, acc, h => by omega
  | f + 1, n, acc, _ => by
    rw [decF_step]
    split
    · simp
    · cases f with
      | zero => simp [decF]
      | succ f => exact decF_ne (f + 1) _ _ (by omega)
theorem dec_read {n : Nat} (h : (n : Int) ≤ mostN) : readS (decL n) = ((n : Int), 0) := by
  have hv : valF 0 (decL n) = (n : Int) := decF_val 20 n [] (by unfold mostN at h; omega) (by omega)
  have hd : ∀ c ∈ decL n, digB c = true := decF_dig 20 n [] (by simp)
  unfold readS
  rw [if_neg (show ¬ decL n = [] from decF_ne 20 n [] (by omega)), readF_val _ 0 (Int.le_refl _) hd (by rw [hv]; exact h), hv]
theorem key_word : ∀ w ∈ keysL, (∀ c ∈ w, wordB c = true) ∧ ∃ c, w.head? = some c ∧ letB c = true := by
  have h : keysL.all (fun w => (w.all fun c => wordB c) && (match w.head? with | some c => letB c | none => false)) = true := by decide +kernel
  intro w hw
  have := List.all_eq_true.1 h w hw
  rw [Bool.and_eq_true, List.all_eq_true] at this
  refine ⟨this.1, ?_⟩
  cases hh : w.head? with
  | none => rw [hh] at this; simp at this
  | some c => rw [hh] at this; exact ⟨c, rfl, this.2⟩
theorem name_word {w : Bs} (h : nameS w = true) : (∀ c ∈ w, wordB c = true) ∧ ∃ c, w.head? = some c ∧ letB c = true := by
  cases w with
  | nil => simp [nameS] at h
  | cons c r =>
    simp only [nameS, Bool.and_eq_true, List.all_eq_true, decide_eq_true_eq] at h
    obtain ⟨_, h1, h2⟩ := h
    refine ⟨fun x hx => ?_, c, rfl, h1⟩
    rcases List.mem_cons.1 hx with rfl | hx
    · unfold wordB letB; rw [h1]; rfl
    · exact h2 x hx
theorem sign_head : ∀ w ∈ signsL, ∃ c r, w = c :: r ∧ letB c = false ∧ digB c = false ∧ c ≠ 34 ∧ ¬ (c = 32 ∨ c = 10 ∨ c = 9) ∧ (c = 47 → r = []) := by
  have h : signsL.all (fun w => match w with | [] => false | c :: r => !(letB c) && (!(digB c) && (decide (c ≠ 34) && (decide (¬ (c = 32 ∨ c = 10 ∨ c = 9)) && decide (c = 47 → r = []))))) = true := by decide +kernel
  intro w hw
  have := List.all_eq_true.1 h w hw
  cases w with
  | nil => simp at this
  | cons c r =>
    simp only [Bool.and_eq_true, Bool.not_eq_true', decide_eq_true_eq] at this
    exact ⟨c, r, rfl, this.1, this.2.1, this.2.2.1, this.2.2.2.1, this.2.2.2.2⟩
theorem two_sp : ∀ w ∈ twoL, w[1]? ≠ some 32 := by decide +kernel
theorem sign_sp {w : Bs} (h : w ∈ signsL) (R : Bs) : signS (w ++ 32 :: R) = w := by
  rcases List.mem_append.1 h with h | h
  · have hl := two_len w h
    unfold signS
    rw [List.take_append_of_le_length (by omega), List.take_of_length_le (by omega), if_pos h]
  · have hl := one_lenC w h
    obtain ⟨c, rfl⟩ : ∃ c, w = [c] := by
      cases w with
      | nil => simp at hl
      | cons c r => cases r with
        | nil => exact ⟨c, rfl⟩
        | cons a b => simp at hl
    unfold signS
    have e2 : ([c] ++ 32 :: R).take 2 = [c, 32] := rfl
    have e1 : ([c] ++ 32 :: R).take 1 = [c] := rfl
    rw [e2, e1, if_neg (fun h2 => two_sp _ h2 rfl), if_pos h]
theorem let_dig {c : UInt8} (h : letB c = true) : ¬ (c = 32 ∨ c = 10 ∨ c = 9) ∧ c ≠ 47 := by
  refine ⟨?_, ?_⟩
  · rintro (rfl | rfl | rfl) <;> revert h <;> decide
  · rintro rfl; revert h; decide
theorem dig_not {c : UInt8} (h : digB c = true) : ¬ (c = 32 ∨ c = 10 ∨ c = 9) ∧ c ≠ 47 ∧ letB c = false := by
  have hd := digB_iff.1 h
  refine ⟨?_, ?_, ?_⟩
  · rintro (rfl | rfl | rfl) <;> revert h <;> decide
  · rintro rfl; revert h; decide
  · unfold letB letterB
    simp
    omega
end Go.Proofs.Ytmglmjbjgfbdjaa
/- A tree's text has a tree's tokens, plainly: pieces, expressions. -/
set_option linter.unusedVariables false
set_option linter.unusedSimpArgs false
set_option maxRecDepth 20000
set_option maxHeartbeats 8000000
namespace Go.Proofs.Ytmglmjbjgfbdjaa
open Go Ax
def tkOf (k : Int) (t : Bs) (n : Int) : Tk := (k, if k = 3 then [] else t, n)
/-- The tokens of a text. -/
def lexF : Nat → Bs → Option (List Tk)
  | 0, _ => none
  | f + 1, r =>
    match skipL false r with
    | [] => some []
    | c :: q => match oneL (c :: q) with
      | .err _ _ => none
      | .tok k t n w => (lexF f ((c :: q).drop w)).map fun l => tkOf k t n :: l
def LX (r : Bs) (l : List Tk) : Prop := Ev fun f => lexF f r = some l
theorem LX.nil : LX [] [] := Ev.a fun f => rfl
theorem LX.blank {r : Bs} {l : List Tk} (h : LX r l) : LX (32 :: r) l := by
  obtain ⟨f0, h⟩ := h
  refine ⟨f0 + 1, fun f hf => ?_⟩
  obtain ⟨g, rfl⟩ : ∃ g, f = g + 1 := ⟨f - 1, by omega⟩
  have e : skipL false (32 :: r) = skipL false r := rfl
  rw [← h (g + 1) (by omega)]
  unfold lexF
  rw [e]
theorem LX.tok {w R : Bs} {l : List Tk} {k n : Int} {t : Bs} (hw : w ≠ []) (hs : skipL false (w ++ R) = w ++ R) (ho : oneL (w ++ R) = .tok k t n w.length) (h : LX R l) : LX (w ++ R) (tkOf k t n :: l) :=
  h.s fun f h => by
    have h : lexF f R = some l := h
    show lexF (f + 1) (w ++ R) = _
    unfold lexF
    rw [hs]
    cases w with
    | nil => exact absurd rfl hw
    | cons c q =>
      rw [List.cons_append] at ho ⊢
      dsimp only
      rw [ho]
      dsimp only
      have e : (c :: (q ++ R)).drop (c :: q).length = R := by rw [← List.cons_append, List.drop_append_of_le_length (Nat.le_refl _), List.drop_length]; rfl
      rw [e, h]
      rfl
def okR (R : Bs) : Prop := ∀ c r, R = c :: r → wordB c = false
theorem okR.nil : okR [] := fun c r h => by simp at h
theorem okR.cons {c : UInt8} (h : wordB c = false) (R : Bs) : okR (c :: R) := fun c' r e => by simp only [List.cons.injEq] at e; obtain ⟨rfl, -⟩ := e; exact h
theorem tw_ok {p : UInt8 → Bool} {w R : Bs} (hw : ∀ c ∈ w, p c = true) (hR : ∀ c r, R = c :: r → p c = false) : (w ++ R).takeWhile p = w := by
  cases R with
  | nil =>
    rw [List.append_nil]
    induction w with
    | nil => rfl
    | cons c w ih => rw [List.takeWhile_cons_of_pos (hw c (by simp)), ih fun x hx => hw x (by simp [hx])]
  | cons c R => exact tw_all (hR c R rfl) hw
theorem LX.word {w R : Bs} {l : List Tk} (hn : nameS w = true ∨ keyS w = true) (hR : okR R) (h : LX R l) : LX (w ++ R) (wd w :: l) := by
  obtain ⟨ha, c, hc, hl⟩ : (∀ c ∈ w, wordB c = true) ∧ ∃ c, w.head? = some c ∧ letB c = true := by
    rcases hn with hn | hn
    · exact name_word hn
    · exact key_word w (of_decide_eq_true hn)
  cases w with
  | nil => simp at hc
  | cons c' q =>
    simp only [List.head?_cons, Option.some.injEq] at hc
    subst hc
    have htw := tw_ok ha hR
    have hK : wordK (c' :: q) = if keyS (c' :: q) = true then 2 else 1 := by
      unfold wordK
      split
      · rfl
      · rename_i hk
        rw [if_pos (hn.resolve_right hk)]
    have := h.tok (w := c' :: q) (k := if keyS (c' :: q) = true then 2 else 1) (t := c' :: q) (n := 0) (by simp) (skip_no (let_dig hl).1 fun h => (let_dig hl).2 h.1) (by
      rw [one_word (r := c' :: q ++ R) (q := q ++ R) rfl hl, htw, hK]
      by_cases hk : keyS (c' :: q) = true
      · rw [if_pos hk, if_neg (by decide)]
      · rw [if_neg hk, if_neg (by decide)])
    have e : tkOf (if keyS (c' :: q) = true then 2 else 1) (c' :: q) 0 = wd (c' :: q) := by
      unfold tkOf wd
      split
      · rw [if_neg (by decide)]
      · rw [if_neg (by decide)]
    rwa [e] at this
theorem LX.key {w R : Bs} {l : List Tk} (hk : keyS w = true) (hR : okR R) (h : LX R l) : LX (w ++ R) (ky w :: l) := by
  have := LX.word (.inr hk) hR h
  unfold wd at this
  rwa [if_pos hk] at this
theorem LX.num {n : Int} {R : Bs} {l : List Tk} (h0 : 0 ≤ n) (hm : n ≤ mostN) (hR : okR R) (h : LX R l) : LX (decL n.toNat ++ R) ((3, [], n) :: l) := by
  have hd : ∀ c ∈ decL n.toNat, digB c = true := decF_dig 20 _ [] (by simp)
  have hr := dec_read (n := n.toNat) (by omega)
  have hne : decL n.toNat ≠ [] := decF_ne 20 _ [] (by omega)
  have hRd : ∀ c r, R = c :: r → digB c = false := fun c r e => by
    have := hR c r e
    unfold wordB at this
    simp only [Bool.or_eq_false_iff] at this
    exact this.2
  have htw := tw_ok hd hRd
  generalize decL n.toNat = w at hd hr hne htw ⊢
  cases w with
  | nil => exact absurd rfl hne
  | cons c q =>
    obtain ⟨x1, x2, x3⟩ := dig_not (hd c (by simp))
    have := h.tok (w := c :: q) (k := 3) (t := decL (readS (c :: q)).1.toNat) (n := (readS (c :: q)).1) (by simp) (skip_no x1 fun h => x2 h.1) (by
      rw [one_num (r := c :: q ++ R) (q := q ++ R) rfl (by simp [x3]) (hd c (by simp)), htw, hr, if_pos rfl])
    rw [hr] at this
    have e : ((n.toNat : Nat) : Int) = n := by omega
    rw [e] at this
    exact this
theorem LX.str {s R : Bs} {l : List Tk} (hs : s.length ≤ 256) (h : LX R l) : LX (quoteS s ++ R) ((4, s, 0) :: l) := by
  have hb := Go.Proofs.Ytmglmjbjgfbdjaa.back s R
  have := h.tok (w := quoteS s) (k := 4) (t := s) (n := 0) (by simp [quoteS]) (skip_no (by decide) fun h => absurd h.1 (by decide)) (by
    rw [one_str (r := quoteS s ++ R) (c := 34) (q := (s.flatMap quote1 ++ [34]) ++ R) rfl (by decide) (by decide) rfl, hb]
    dsimp only
    rw [if_pos rfl, if_neg (by omega)])
  exact this
theorem LX.sgn {w R : Bs} {l : List Tk} (hm : w ∈ signsL) (hs : signS (w ++ R) = w) (h : LX R l) (h47 : w = [47] → R.head? ≠ some 47) : LX (w ++ R) (sg w :: l) := by
  obtain ⟨c, r, hw, s1, s2, s3, s4, s5⟩ := sign_head w hm
  have := h.tok (w := w) (k := 5) (t := w) (n := 0) (by rw [hw]; simp) (by
    rw [hw, List.cons_append]
    refine skip_no s4 ?_
    rintro ⟨e1, e2⟩
    have hr := s5 e1
    subst hr
    exact h47 (by rw [hw, e1]) (by simpa using e2)) (by
    rw [one_sign (c := c) (q := r ++ R) (by rw [hw]; rfl) (by simp [s1]) (by simp [s2]) s3, hs, if_neg (by rw [hw]; simp)])
  exact this
/-- A sign with a blank behind it. -/
theorem LX.sp {w R : Bs} {l : List Tk} (hm : w ∈ signsL) (h : LX R l) : LX (w ++ 32 :: R) (sg w :: l) := h.blank.sgn hm (sign_sp hm R) (fun _ => by simp)
/-- Signs that begin no longer one. -/
def soloB (c : UInt8) : Bool := decide ([c] ∈ oneCL) && (c != 60 && (c != 62 && (c != 61 && (c != 33 && c != 47))))
theorem two_solo : ∀ w ∈ twoL, ∀ c ∈ w.head?, soloB c = false := by decide +kernel
theorem signS_one {c : UInt8} {R : Bs} (h1 : [c] ∈ oneCL) (h2 : (c :: R).take 2 ∉ twoL) : signS (c :: R) = [c] := by
  unfold signS
  rw [if_neg h2, show (c :: R).take 1 = [c] from rfl, if_pos h1]
theorem LX.one {c : UInt8} {R : Bs} {l : List Tk} (hc : soloB c = true) (h : LX R l) : LX (c :: R) (sg [c] :: l) := by
  have h1 : [c] ∈ oneCL := by
    unfold soloB at hc
    simp only [Bool.and_eq_true, decide_eq_true_eq] at hc
    exact hc.1
  refine LX.sgn (w := [c]) (List.mem_append.2 (.inr h1)) (signS_one h1 fun h2 => ?_) h (fun e => ?_)
  · have := two_solo _ h2 c (by simp)
    rw [hc] at this
    exact absurd this (by simp)
  · simp only [List.cons.injEq, and_true] at e
    subst e
    exact absurd hc (by decide)
theorem LX.not {R : Bs} {l : List Tk} (hR : R.head? ≠ some 61) (h : LX R l) : LX (33 :: R) (kNot :: l) := by
  refine LX.sgn (w := [33]) (List.mem_append.2 (.inr (by decide))) (signS_one (by decide) fun h2 => ?_) h (fun e => absurd e (by decide))
  cases R with
  | nil => revert h2; decide
  | cons d R =>
    have h2 : [33, d] ∈ twoL := h2
    have : d = 61 := by
      have key : ∀ w ∈ twoL, w.head? = some 33 → w = [33, 61] := by decide +kernel
      have := key _ h2 rfl
      simp only [List.cons.injEq, and_true, true_and] at this
      exact this
    exact hR (by rw [this]; rfl)
structure LE (x : Tr) : Prop where
  head : x.tx.1.head? ≠ some 61 ∧ x.tx.1 ≠ []
  lx : ∀ R l, okR R → LX R l → LX (x.tx.1 ++ R) (x.tk.1 ++ l)
theorem LE.at {x : Tr} (q : LE x) (least : Int) : ((atS least x x.tx.1).head? ≠ some 61 ∧ atS least x x.tx.1 ≠ []) ∧ ∀ R l, okR R → LX R l → LX (atS least x x.tx.1 ++ R) (atK least x x.tk.1 ++ l) := by
  unfold atS atK
  split
  · exact ⟨q.head, q.lx⟩
  · refine ⟨⟨by simp, by simp⟩, fun R l hR h => ?_⟩
    have := LX.one (c := 40) (by decide) (q.lx (41 :: R) (kShut :: l) (.cons (by decide) _) (LX.one (c := 41) (by decide) h))
    simpa only [List.append_assoc, List.cons_append, List.nil_append] using this
theorem okc {c : UInt8} (h : wordB c = false) (R : Bs) : okR (c :: R) := .cons h R
theorem commaL : ∀ {ks : List Tr}, (∀ y ∈ ks, LE y) → ∀ R l, okR R → LX R l → LX (commaS (ks.map (·.tx.1)) ++ R) (commaK (ks.map (·.tk.1)) ++ l)
  | [], _, R, l, _, h => h
  | [y], hk, R, l, hR, h => (hk y (by simp)).lx R l hR h
  | y :: z :: ks, hk, R, l, hR, h => by
    have h1 := commaL (ks := z :: ks) (fun u hu => hk u (List.mem_cons_of_mem _ hu)) R l hR h
    have h2 := (hk y (by simp)).lx (44 :: 32 :: (commaS ((z :: ks).map (·.tx.1)) ++ R)) (kComma :: (commaK ((z :: ks).map (·.tk.1)) ++ l)) (okc (by decide) _) (LX.one (c := 44) (by decide) h1.blank)
    show LX ((y.tx.1 ++ [44, 32] ++ commaS ((z :: ks).map (·.tx.1))) ++ R) ((y.tk.1 ++ kComma :: commaK ((z :: ks).map (·.tk.1))) ++ l)
    simpa only [List.append_assoc, List.cons_append, List.nil_append] using h2
theorem namesL6 : ∀ {ns : List ByteArray}, (∀ s ∈ ns, nameS s.data.toList = true) → ∀ R l, okR R → LX R l → LX (commaS (ns.map (·.data.toList)) ++ R) (commaK (ns.map fun s => [wd s.data.toList]) ++ l)
  | [], _, R, l, _, h => h
  | [n], hk, R, l, hR, h => LX.word (.inl (hk n (by simp))) hR h
  | n :: m :: ns, hk, R, l, hR, h => by
    have h1 := namesL6 (ns := m :: ns) (fun u hu => hk u (List.mem_cons_of_mem _ hu)) R l hR h
    have h2 := LX.word (.inl (hk n (by simp))) (okc (by decide) _) (LX.one (c := 44) (by decide) h1.blank)
    show LX ((n.data.toList ++ [44, 32] ++ commaS ((m :: ns).map (·.data.toList))) ++ R) (([wd n.data.toList] ++ kComma :: commaK ((m :: ns).map fun s => [wd s.data.toList])) ++ l)
    simpa only [List.append_assoc, List.cons_append, List.nil_append] using h2
theorem fieldsL6 : ∀ {ns : List ByteArray} {ks : List Tr}, ks.length = ns.length → (∀ s ∈ ns, nameS s.data.toList = true) → (∀ y ∈ ks, LE y) → ∀ R l, okR R → LX R l → LX (commaS (fieldS ns (ks.map (·.tx.1))) ++ R) (commaK (fieldK ns (ks.map (·.tk.1))) ++ l)
  | [], [], _, _, _, R, l, _, h => h
  | [], _ :: _, hl, _, _, _, _, _, _ => by simp at hl
  | _ :: _, [], hl, _, _, _, _, _, _ => by simp at hl
  | [n], [y], _, hn, hk, R, l, hR, h => by
    have h2 := LX.word (.inl (hn n (by simp))) (okc (by decide) _) (LX.one (c := 58) (by decide) ((hk y (by simp)).lx R l hR h).blank)
    show LX ((n.data.toList ++ [58, 32] ++ y.tx.1) ++ R) ((wd n.data.toList :: kColon :: y.tk.1) ++ l)
    simpa only [List.append_assoc, List.cons_append, List.nil_append] using h2
  | n :: m :: ns, [y], hl, _, _, _, _, _, _ => by simp at hl
  | [n], y :: z :: ks, hl, _, _, _, _, _, _ => by simp at hl
  | n :: m :: ns, y :: z :: ks, hl, hn, hk, R, l, hR, h => by
    have h1 := fieldsL6 (ns := m :: ns) (ks := z :: ks) (by simpa using hl) (fun u hu => hn u (List.mem_cons_of_mem _ hu)) (fun u hu => hk u (List.mem_cons_of_mem _ hu)) R l hR h
    have h2 := LX.word (.inl (hn n (by simp))) (okc (by decide) _) (LX.one (c := 58) (by decide) ((hk y (by simp)).lx _ _ (okc (by decide) _) (LX.one (c := 44) (by decide) h1.blank)).blank)
    show LX (((n.data.toList ++ [58, 32] ++ y.tx.1) ++ [44, 32] ++ commaS (fieldS (m :: ns) ((z :: ks).map (·.tx.1)))) ++ R) (((wd n.data.toList :: kColon :: y.tk.1) ++ kComma :: commaK (fieldK (m :: ns) ((z :: ks).map (·.tk.1)))) ++ l)
    simpa only [List.append_assoc, List.cons_append, List.nil_append] using h2
def LS (x : Tr) : Prop := ∀ R l, LX R l → LX (x.tx.2.1 ++ R) (x.tk.2.1 ++ l)
theorem spaceL : ∀ {ks : List Tr}, (∀ y ∈ ks, LS y) → ∀ R l, LX R l → LX (spaceS (ks.map (·.tx.2.1)) ++ R) ((ks.map (·.tk.2.1)).flatten ++ l)
  | [], _, R, l, h => h
  | y :: ks, hk, R, l, h => by
    have h1 := (hk y (by simp) _ _ (spaceL (ks := ks) (fun u hu => hk u (List.mem_cons_of_mem _ hu)) R l h)).blank
    show LX (([32] ++ y.tx.2.1 ++ spaceS (ks.map (·.tx.2.1))) ++ R) ((y.tk.2.1 ++ (ks.map (·.tk.2.1)).flatten) ++ l)
    simpa only [List.append_assoc, List.cons_append, List.nil_append] using h1
theorem braceL {ks : List Tr} (hk : ∀ y ∈ ks, LS y) (R : Bs) (l : List Tk) (h : LX R l) : LX (braceS (ks.map (·.tx.2.1)) ++ R) (kBr :: ((ks.map (·.tk.2.1)).flatten ++ kBrE :: l)) := by
  by_cases hn : ks = []
  · subst hn
    exact LX.one (c := 123) (by decide) (LX.one (c := 125) (by decide) h)
  · have ht : braceS (ks.map (·.tx.2.1)) = [123] ++ spaceS (ks.map (·.tx.2.1)) ++ [32, 125] := if_neg (by simpa using hn)
    rw [ht]
    have := LX.one (c := 123) (by decide) (spaceL hk _ _ (LX.one (c := 125) (by decide) h).blank)
    simpa only [List.append_assoc, List.cons_append, List.nil_append] using this
end Go.Proofs.Ytmglmjbjgfbdjaa
/- A right tree's text tells the tree, plainly. -/
set_option linter.unusedVariables false
set_option linter.unusedSimpArgs false
set_option maxRecDepth 20000
set_option maxHeartbeats 8000000
namespace Go.Proofs.Ytmglmjbjgfbdjaa
open Go Ax
theorem head_app {a b : Bs} (h : a.head? ≠ some 61 ∧ a ≠ []) : (a ++ b).head? ≠ some 61 ∧ a ++ b ≠ [] := by
  cases a with
  | nil => exact absurd rfl h.2
  | cons c q => exact ⟨h.1, by simp⟩
theorem word_head {w : Bs} (h : nameS w = true ∨ keyS w = true) : w.head? ≠ some 61 ∧ w ≠ [] := by
  obtain ⟨c, hc, hl⟩ : ∃ c, w.head? = some c ∧ letB c = true := by
    rcases h with h | h
    · exact (name_word h).2
    · exact (key_word w (of_decide_eq_true h)).2
  refine ⟨?_, by rintro rfl; simp at hc⟩
  rw [hc]
  simp only [ne_eq, Option.some.injEq]
  rintro rfl
  revert hl; decide
theorem dec_head (n : Nat) : (decL n).head? ≠ some 61 ∧ decL n ≠ [] := by
  have hd : ∀ c ∈ decL n, digB c = true := decF_dig 20 _ [] (by simp)
  have hne : decL n ≠ [] := decF_ne 20 _ [] (by omega)
  refine ⟨?_, hne⟩
  generalize decL n = w at hd hne
  cases w with
  | nil => simp
  | cons c q =>
    simp only [List.head?_cons, ne_eq, Option.some.injEq]
    rintro rfl
    have := hd 61 (by simp)
    revert this; decide
theorem sign_mem {o : Int} (h1 : 1 ≤ o) (h11 : o ≤ 11) : (signT o).data.toList ∈ signsL := by
  rcases eleven h1 h11 with e | e | e | e | e | e | e | e | e | e | e <;> rw [e] <;> decide +kernel
theorem built_key {o : Int} (h1 : 1 ≤ o) (h7 : o ≤ 7) : keyS (builtS o).data.toList = true := by
  rcases seven h1 h7 with e | e | e | e | e | e | e <;> rw [e] <;> decide +kernel
theorem le_bin {x y z : Tr} {r : Int} {w : Bs} (hw : w ∈ signsL) (ht : x.tx.1 = atS r y y.tx.1 ++ [32] ++ w ++ [32] ++ atS (r + 1) z z.tx.1) (hk : x.tk.1 = atK r y y.tk.1 ++ sg w :: atK (r + 1) z z.tk.1) (qy : LE y) (qz : LE z) : LE x := by
  have ay := qy.at r
  have az := qz.at (r + 1)
  refine ⟨by rw [ht]; simp only [List.append_assoc]; exact head_app ay.1, fun R l hR h => ?_⟩
  rw [ht, hk]
  have h1 := ay.2 (32 :: (w ++ 32 :: (atS (r + 1) z z.tx.1 ++ R))) _ (okc (by decide) _) (LX.sp hw (az.2 R l hR h)).blank
  simpa only [List.append_assoc, List.cons_append, List.nil_append] using h1
theorem le_expr {x : Tr} (hp : ExprP x) (he : x.kind ≠ 8 → ∀ y ∈ x.kids, LE y) (hs : x.kind = 8 → ∀ y ∈ x.kids, LS y) : LE x := by
  unfold ExprP at hp
  rcases hp with ⟨hk | hk, -⟩ | ⟨hk, -, hb, -⟩ | ⟨hk, -, h0, h1, -⟩ | ⟨hk, -, h0, -⟩ | ⟨hk, -, hn, -⟩ | ⟨hk, -, -, hi, hn⟩ | ⟨hk, -, -, hi, -⟩ | ⟨hk, -, ho, hn⟩ | ⟨hk, -, ho1, ho2, hn⟩ | ⟨hk | hk | hk, -, hn⟩ | ⟨hk, -, hi, hn⟩ | ⟨hk, -, hn, -⟩ | ⟨hk, -, hi, hn, -⟩ | ⟨hk, -, ho1, ho2, -⟩
  · have ht : x.tx.1 = [110, 117, 108, 108] := by rw [Tr.tx_eq, hk]; rfl
    have hkk : x.tk.1 = [ky [110, 117, 108, 108]] := by rw [Tr.tk_eq, hk]; rfl
    exact ⟨by rw [ht]; exact word_head (.inr (by decide +kernel)), fun R l hR h => by rw [ht, hkk]; exact LX.key (by decide +kernel) hR h⟩
  · have ht : x.tx.1 = [116, 104, 105, 115] := by rw [Tr.tx_eq, hk]; rfl
    have hkk : x.tk.1 = [ky [116, 104, 105, 115]] := by rw [Tr.tk_eq, hk]; rfl
    exact ⟨by rw [ht]; exact word_head (.inr (by decide +kernel)), fun R l hR h => by rw [ht, hkk]; exact LX.key (by decide +kernel) hR h⟩
  · rcases hb with hb | hb
    · have ht : x.tx.1 = [102, 97, 108, 115, 101] := by rw [Tr.tx_eq, hk, hb]; rfl
      have hkk : x.tk.1 = [ky [102, 97, 108, 115, 101]] := by rw [Tr.tk_eq, hk, hb]; rfl
      exact ⟨by rw [ht]; exact word_head (.inr (by decide +kernel)), fun R l hR h => by rw [ht, hkk]; exact LX.key (by decide +kernel) hR h⟩
    · have ht : x.tx.1 = [116, 114, 117, 101] := by rw [Tr.tx_eq, hk, hb]; rfl
      have hkk : x.tk.1 = [ky [116, 114, 117, 101]] := by rw [Tr.tk_eq, hk, hb]; rfl
      exact ⟨by rw [ht]; exact word_head (.inr (by decide +kernel)), fun R l hR h => by rw [ht, hkk]; exact LX.key (by decide +kernel) hR h⟩
  · have ht : x.tx.1 = decL x.num.toNat := by rw [Tr.tx_eq, hk]; rfl
    have hkk : x.tk.1 = [(3, [], x.num)] := by rw [Tr.tk_eq, hk]; rfl
    exact ⟨by rw [ht]; exact dec_head _, fun R l hR h => by rw [ht, hkk]; exact LX.num h0 (by unfold mostN; exact h1) hR h⟩
  · have ht : x.tx.1 = quoteS x.str.data.toList := by rw [Tr.tx_eq, hk]; rfl
    have hkk : x.tk.1 = [(4, x.str.data.toList, 0)] := by rw [Tr.tk_eq, hk]; rfl
    exact ⟨by rw [ht]; exact ⟨by simp [quoteS], by simp [quoteS]⟩, fun R l hR h => by rw [ht, hkk]; exact LX.str (show x.str.data.toList.length ≤ 256 from h0) h⟩
  · have ht : x.tx.1 = x.str.data.toList := by rw [Tr.tx_eq, hk]; rfl
    have hkk : x.tk.1 = [wd x.str.data.toList] := by rw [Tr.tk_eq, hk]; rfl
    exact ⟨by rw [ht]; exact word_head (.inl hn.1), fun R l hR h => by rw [ht, hkk]; exact LX.word (.inl hn.1) hR h⟩
  · have ht : x.tx.1 = [123] ++ commaS (fieldS x.names (x.kids.map (·.tx.1))) ++ [125] := by rw [Tr.tx_eq, hk, ← map_one]; rfl
    have hkk : x.tk.1 = kBr :: (commaK (fieldK x.names (x.kids.map (·.tk.1))) ++ [kBrE]) := by rw [Tr.tk_eq, hk, ← map_tk]; rfl
    refine ⟨by rw [ht]; simp, fun R l hR h => ?_⟩
    rw [ht, hkk]
    have := LX.one (c := 123) (by decide) (fieldsL6 hn hi (he (by omega)) _ _ (okc (by decide) _) (LX.one (c := 125) (by decide) h))
    simpa only [List.append_assoc, List.cons_append, List.nil_append] using this
  · have ht : x.tx.1 = [102, 110] ++ ([40] ++ (commaS (x.names.map (·.data.toList)) ++ ([41] ++ ([32] ++ braceS (x.kids.map (·.tx.2.1)))))) := by
      have : x.tx.1 = [102, 110, 40] ++ commaS (x.names.map (·.data.toList)) ++ [41, 32] ++ braceS (x.kids.map (·.tx.2.1)) := by
        have e : (x.kids.map Tr.tx).map (·.2.1) = x.kids.map (·.tx.2.1) := by simp [Function.comp_def]
        rw [Tr.tx_eq, hk, ← e]; rfl
      rw [this]; simp
    have hkk : x.tk.1 = ky [102, 110] :: kOpen :: (commaK (x.names.map fun s => [wd s.data.toList]) ++ kShut :: kBr :: ((x.kids.map (·.tk.2.1)).flatten ++ [kBrE])) := by rw [Tr.tk_eq, hk, ← map_tk2]; rfl
    refine ⟨by rw [ht]; simp, fun R l hR h => ?_⟩
    rw [ht, hkk]
    have h1 := (braceL (hs hk) R l h).blank
    have h2 := LX.key (w := [102, 110]) (by decide +kernel) (okc (by decide) _) (LX.one (c := 40) (by decide) (namesL6 (fun s hs => (hi s hs).1) _ _ (okc (by decide) _) (LX.one (c := 41) (by decide) h1)))
    simpa only [List.append_assoc, List.cons_append, List.nil_append] using h2
  · obtain ⟨y, hks⟩ := List.length_eq_one_iff.1 hn
    have qy := he (by omega) y (by rw [hks]; simp)
    have ay := qy.at 7
    rcases ho with ho | ho
    · have ht : x.tx.1 = [45] ++ atS 7 y y.tx.1 := by rw [Tr.tx_eq, hks, hk, ho]; rfl
      have hkk : x.tk.1 = kMinus :: atK 7 y y.tk.1 := by rw [Tr.tk_eq, hks, hk, ho]; rfl
      refine ⟨by rw [ht]; simp, fun R l hR h => ?_⟩
      rw [ht, hkk]
      exact LX.one (c := 45) (by decide) (ay.2 R l hR h)
    · have ht : x.tx.1 = [33] ++ atS 7 y y.tx.1 := by rw [Tr.tx_eq, hks, hk, ho]; rfl
      have hkk : x.tk.1 = kNot :: atK 7 y y.tk.1 := by rw [Tr.tk_eq, hks, hk, ho]; rfl
      refine ⟨by rw [ht]; simp, fun R l hR h => ?_⟩
      rw [ht, hkk]
      exact LX.not (head_app ay.1).1 (ay.2 R l hR h)
  · obtain ⟨y, z, hks⟩ := two_of hn
    exact le_bin (r := rankP x.kind x.op) (sign_mem ho1 ho2) (by rw [Tr.tx_eq, hks, hk]; rfl) (by rw [Tr.tk_eq, hks, hk]; rfl) (he (by omega) y (by rw [hks]; simp)) (he (by omega) z (by rw [hks]; simp))
  · obtain ⟨y, z, hks⟩ := two_of hn
    exact le_bin (r := rankP x.kind x.op) (w := [38, 38]) (by decide +kernel) (by rw [Tr.tx_eq, hks, hk]; rfl) (by rw [Tr.tk_eq, hks, hk]; rfl) (he (by omega) y (by rw [hks]; simp)) (he (by omega) z (by rw [hks]; simp))
  · obtain ⟨y, z, hks⟩ := two_of hn
    exact le_bin (r := rankP x.kind x.op) (w := [124, 124]) (by decide +kernel) (by rw [Tr.tx_eq, hks, hk]; rfl) (by rw [Tr.tk_eq, hks, hk]; rfl) (he (by omega) y (by rw [hks]; simp)) (he (by omega) z (by rw [hks]; simp))
  · obtain ⟨y, z, hks⟩ := two_of hn
    have ay := (he (by omega) y (by rw [hks]; simp)).at 8
    have qz := he (by omega) z (by rw [hks]; simp)
    have ht : x.tx.1 = atS 8 y y.tx.1 ++ [91] ++ z.tx.1 ++ [93] := by rw [Tr.tx_eq, hks, hk]; rfl
    have hkk : x.tk.1 = atK 8 y y.tk.1 ++ kSq :: (z.tk.1 ++ [kSqE]) := by rw [Tr.tk_eq, hks, hk]; rfl
    refine ⟨by rw [ht]; simp only [List.append_assoc]; exact head_app ay.1, fun R l hR h => ?_⟩
    rw [ht, hkk]
    have := ay.2 _ _ (okc (by decide) _) (LX.one (c := 91) (by decide) (qz.lx _ _ (okc (by decide) _) (LX.one (c := 93) (by decide) h)))
    simpa only [List.append_assoc, List.cons_append, List.nil_append] using this
  · obtain ⟨y, hks⟩ := List.length_eq_one_iff.1 hn
    have ay := (he (by omega) y (by rw [hks]; simp)).at 8
    have ht : x.tx.1 = atS 8 y y.tx.1 ++ [46] ++ x.str.data.toList := by rw [Tr.tx_eq, hks, hk]; rfl
    have hkk : x.tk.1 = atK 8 y y.tk.1 ++ [kDot, wd x.str.data.toList] := by rw [Tr.tk_eq, hks, hk]; rfl
    refine ⟨by rw [ht]; simp only [List.append_assoc]; exact head_app ay.1, fun R l hR h => ?_⟩
    rw [ht, hkk]
    have := ay.2 _ _ (okc (by decide) _) (LX.one (c := 46) (by decide) (LX.word (.inl hi) hR h))
    simpa only [List.append_assoc, List.cons_append, List.nil_append] using this
  · obtain ⟨y, r, hks⟩ := some_of hn
    have hh := he (by omega)
    rw [hks] at hh
    have ay := (hh y (by simp)).at (if y.kind = 13 then 9 else 8)
    have ht : x.tx.1 = atS (if y.kind = 13 then 9 else 8) y y.tx.1 ++ [40] ++ commaS (r.map (·.tx.1)) ++ [41] := by rw [Tr.tx_eq, hks, hk, ← map_one]; rfl
    have hkk : x.tk.1 = atK (if y.kind = 13 then 9 else 8) y y.tk.1 ++ kOpen :: (commaK (r.map (·.tk.1)) ++ [kShut]) := by rw [Tr.tk_eq, hks, hk, ← map_tk]; rfl
    refine ⟨by rw [ht]; simp only [List.append_assoc]; exact head_app ay.1, fun R l hR h => ?_⟩
    rw [ht, hkk]
    have := ay.2 _ _ (okc (by decide) _) (LX.one (c := 40) (by decide) (commaL (fun z hz => hh z (List.mem_cons_of_mem _ hz)) _ _ (okc (by decide) _) (LX.one (c := 41) (by decide) h)))
    simpa only [List.append_assoc, List.cons_append, List.nil_append] using this
  · obtain ⟨y, r, hks⟩ := some_of hn
    have hh := he (by omega)
    rw [hks] at hh
    have ay := (hh y (by simp)).at 8
    have ht : x.tx.1 = atS 8 y y.tx.1 ++ [46] ++ x.str.data.toList ++ [40] ++ commaS (r.map (·.tx.1)) ++ [41] := by rw [Tr.tx_eq, hks, hk, ← map_one]; rfl
    have hkk : x.tk.1 = atK 8 y y.tk.1 ++ kDot :: wd x.str.data.toList :: kOpen :: (commaK (r.map (·.tk.1)) ++ [kShut]) := by rw [Tr.tk_eq, hks, hk, ← map_tk]; rfl
    refine ⟨by rw [ht]; simp only [List.append_assoc]; exact head_app ay.1, fun R l hR h => ?_⟩
    rw [ht, hkk]
    have := ay.2 _ _ (okc (by decide) _) (LX.one (c := 46) (by decide) (LX.word (.inl hi) (okc (by decide) _) (LX.one (c := 40) (by decide) (commaL (fun z hz => hh z (List.mem_cons_of_mem _ hz)) _ _ (okc (by decide) _) (LX.one (c := 41) (by decide) h)))))
    simpa only [List.append_assoc, List.cons_append, List.nil_append] using this
  · have ht : x.tx.1 = (builtS x.op).data.toList ++ [40] ++ commaS (x.kids.map (·.tx.1)) ++ [41] := by rw [Tr.tx_eq, hk, ← map_one]; rfl
    have hkk : x.tk.1 = ky (builtS x.op).data.toList :: kOpen :: (commaK (x.kids.map (·.tk.1)) ++ [kShut]) := by rw [Tr.tk_eq, hk, ← map_tk]; rfl
    have hb := built_key ho1 ho2
    refine ⟨by rw [ht]; simp only [List.append_assoc]; exact head_app (word_head (.inr hb)), fun R l hR h => ?_⟩
    rw [ht, hkk]
    have := LX.key hb (okc (by decide) _) (LX.one (c := 40) (by decide) (commaL (he (by omega)) _ _ (okc (by decide) _) (LX.one (c := 41) (by decide) h)))
    simpa only [List.append_assoc, List.cons_append, List.nil_append] using this
end Go.Proofs.Ytmglmjbjgfbdjaa
/- A right tree's text tells the tree, plainly: statements, programs. Printed by mkTa8.py. -/
set_option linter.unusedVariables false
set_option linter.unusedSimpArgs false
set_option maxRecDepth 20000
set_option maxHeartbeats 8000000
namespace Go.Proofs.Ytmglmjbjgfbdjaa
open Go Ax
theorem LX.eq {R : Bs} {l : List Tk} (h : LX R l) : LX (61 :: 32 :: R) (kEq :: l) := LX.sp (w := [61]) (by decide +kernel) h
theorem LX.semi {R : Bs} {l : List Tk} (h : LX R l) : LX (59 :: R) (kSemi :: l) := LX.one (c := 59) (by decide) h
theorem ls_stmt {x : Tr} (hp : StmtP x) (hr : ∀ j y, x.kids[j]? = some y → RightT y (wantP x.kind j)) (he : ∀ y ∈ x.kids, RightT y 1 → LE y) (hs : ∀ y ∈ x.kids, RightT y 3 → ∀ z ∈ y.kids, LS z) : LS x := by
  intro R l h
  obtain ⟨hk, hn, hi⟩ | ⟨hk, hn, hi⟩ | ⟨hk, hn, hi⟩ | ⟨hk, hn, hi⟩ | ⟨hk, hn, hi⟩ | ⟨hk, hn, hi⟩ | ⟨hk, hn, hi⟩ | ⟨hk, hn, hi⟩ | ⟨hk, hn, hi⟩ | ⟨hk, hn, hi⟩ | ⟨hk, hn, hi⟩ : (x.kind = 21 ∧ x.kids.length = 1 ∧ nameS x.str.data.toList = true) ∨ (x.kind = 22 ∧ x.kids.length = 1 ∧ nameS x.str.data.toList = true) ∨ (x.kind = 23 ∧ x.kids.length = 2 ∧ nameS x.str.data.toList = true) ∨ (x.kind = 24 ∧ x.kids.length = 3 ∧ True) ∨ (x.kind = 25 ∧ x.kids.length = 1 ∧ nameS x.str.data.toList = true) ∨ (x.kind = 26 ∧ x.kids.length = 2 ∧ True) ∨ (x.kind = 27 ∧ x.kids.length = 1 ∧ True) ∨ (x.kind = 31 ∧ x.kids.length = 1 ∧ True) ∨ (x.kind = 32 ∧ x.kids.length = 1 ∧ True) ∨ (x.kind = 28 ∧ x.kids.length = 3 ∧ True) ∨ (x.kind = 30 ∧ x.kids.length = 2 ∧ True) := by
    obtain ⟨-, hp⟩ := hp
    rcases hp with ⟨hk, hi, hn⟩ | ⟨hk, hi, hn⟩ | ⟨hk, hi, hn⟩ | ⟨hs, hp⟩
    · have := hi.1; grind
    · have : nameS x.str.data.toList = true := hi; grind
    · have : nameS x.str.data.toList = true := hi; grind
    · grind
  · obtain ⟨y, hks⟩ := List.length_eq_one_iff.1 hn
    rw [hks, hk] at hr
    rw [hks] at he hs
    have q0 := he y (by simp) (hr 0 y rfl)
    have ht : x.tx.2.1 = [108, 101, 116, 32] ++ x.str.data.toList ++ [32, 61, 32] ++ y.tx.1 ++ [59] := by rw [Tr.tx_eq, hks, hk]; rfl
    have hkk : x.tk.2.1 = ky [108, 101, 116] :: wd x.str.data.toList :: kEq :: (y.tk.1 ++ [kSemi]) := by rw [Tr.tk_eq, hks, hk]; rfl
    rw [ht, hkk]
    have := (LX.key (w := [108, 101, 116]) (by decide +kernel) (okc (by decide) _) (LX.blank (LX.word (.inl hi) (okc (by decide) _) (LX.blank (LX.eq (q0.lx _ _ (okc (by decide) _) (LX.semi h)))))))
    simpa only [List.append_assoc, List.cons_append, List.nil_append] using this
  · obtain ⟨y, hks⟩ := List.length_eq_one_iff.1 hn
    rw [hks, hk] at hr
    rw [hks] at he hs
    have q0 := he y (by simp) (hr 0 y rfl)
    have ht : x.tx.2.1 = x.str.data.toList ++ [32, 61, 32] ++ y.tx.1 ++ [59] := by rw [Tr.tx_eq, hks, hk]; rfl
    have hkk : x.tk.2.1 = wd x.str.data.toList :: kEq :: (y.tk.1 ++ [kSemi]) := by rw [Tr.tk_eq, hks, hk]; rfl
    rw [ht, hkk]
    have := (LX.word (.inl hi) (okc (by decide) _) (LX.blank (LX.eq (q0.lx _ _ (okc (by decide) _) (LX.semi h)))))
    simpa only [List.append_assoc, List.cons_append, List.nil_append] using this
  · obtain ⟨y, z, hks⟩ := two_of hn
    rw [hks, hk] at hr
    rw [hks] at he hs
    have q0 := he y (by simp) (hr 0 y rfl)
    have q1 := he z (by simp) (hr 1 z rfl)
    have ht : x.tx.2.1 = atS 8 y y.tx.1 ++ [46] ++ x.str.data.toList ++ [32, 61, 32] ++ z.tx.1 ++ [59] := by rw [Tr.tx_eq, hks, hk]; rfl
    have hkk : x.tk.2.1 = atK 8 y y.tk.1 ++ kDot :: wd x.str.data.toList :: kEq :: (z.tk.1 ++ [kSemi]) := by rw [Tr.tk_eq, hks, hk]; rfl
    rw [ht, hkk]
    have := ((q0.at 8).2 _ _ (okc (by decide) _) (LX.one (c := 46) (by decide) (LX.word (.inl hi) (okc (by decide) _) (LX.blank (LX.eq (q1.lx _ _ (okc (by decide) _) (LX.semi h)))))))
    simpa only [List.append_assoc, List.cons_append, List.nil_append] using this
  · obtain ⟨y, z, u, hks⟩ := three_of hn
    rw [hks, hk] at hr
    rw [hks] at he hs
    have q0 := he y (by simp) (hr 0 y rfl)
    have q1 := he z (by simp) (hr 1 z rfl)
    have q2 := he u (by simp) (hr 2 u rfl)
    have ht : x.tx.2.1 = atS 8 y y.tx.1 ++ [91] ++ z.tx.1 ++ [93] ++ [32, 61, 32] ++ u.tx.1 ++ [59] := by rw [Tr.tx_eq, hks, hk]; rfl
    have hkk : x.tk.2.1 = atK 8 y y.tk.1 ++ kSq :: (z.tk.1 ++ kSqE :: kEq :: (u.tk.1 ++ [kSemi])) := by rw [Tr.tk_eq, hks, hk]; rfl
    rw [ht, hkk]
    have := ((q0.at 8).2 _ _ (okc (by decide) _) (LX.one (c := 91) (by decide) (q1.lx _ _ (okc (by decide) _) (LX.one (c := 93) (by decide) (LX.blank (LX.eq (q2.lx _ _ (okc (by decide) _) (LX.semi h))))))))
    simpa only [List.append_assoc, List.cons_append, List.nil_append] using this
  · obtain ⟨y, hks⟩ := List.length_eq_one_iff.1 hn
    rw [hks, hk] at hr
    rw [hks] at he hs
    have q0 := he y (by simp) (hr 0 y rfl)
    have ht : x.tx.2.1 = [100, 101, 108, 101, 116, 101, 32] ++ atS 8 y y.tx.1 ++ [46] ++ x.str.data.toList ++ [59] := by rw [Tr.tx_eq, hks, hk]; rfl
    have hkk : x.tk.2.1 = ky [100, 101, 108, 101, 116, 101] :: (atK 8 y y.tk.1 ++ [kDot, wd x.str.data.toList, kSemi]) := by rw [Tr.tk_eq, hks, hk]; rfl
    rw [ht, hkk]
    have := (LX.key (w := [100, 101, 108, 101, 116, 101]) (by decide +kernel) (okc (by decide) _) (LX.blank ((q0.at 8).2 _ _ (okc (by decide) _) (LX.one (c := 46) (by decide) (LX.word (.inl hi) (okc (by decide) _) (LX.semi h))))))
    simpa only [List.append_assoc, List.cons_append, List.nil_append] using this
  · obtain ⟨y, z, hks⟩ := two_of hn
    rw [hks, hk] at hr
    rw [hks] at he hs
    have q0 := he y (by simp) (hr 0 y rfl)
    have q1 := he z (by simp) (hr 1 z rfl)
    have ht : x.tx.2.1 = [100, 101, 108, 101, 116, 101, 32] ++ atS 8 y y.tx.1 ++ [91] ++ z.tx.1 ++ [93] ++ [59] := by rw [Tr.tx_eq, hks, hk]; rfl
    have hkk : x.tk.2.1 = ky [100, 101, 108, 101, 116, 101] :: (atK 8 y y.tk.1 ++ kSq :: (z.tk.1 ++ [kSqE, kSemi])) := by rw [Tr.tk_eq, hks, hk]; rfl
    rw [ht, hkk]
    have := (LX.key (w := [100, 101, 108, 101, 116, 101]) (by decide +kernel) (okc (by decide) _) (LX.blank ((q0.at 8).2 _ _ (okc (by decide) _) (LX.one (c := 91) (by decide) (q1.lx _ _ (okc (by decide) _) (LX.one (c := 93) (by decide) (LX.semi h)))))))
    simpa only [List.append_assoc, List.cons_append, List.nil_append] using this
  · obtain ⟨y, hks⟩ := List.length_eq_one_iff.1 hn
    rw [hks, hk] at hr
    rw [hks] at he hs
    have q0 := he y (by simp) (hr 0 y rfl)
    have ht : x.tx.2.1 = [112, 114, 105, 110, 116, 32] ++ y.tx.1 ++ [59] := by rw [Tr.tx_eq, hks, hk]; rfl
    have hkk : x.tk.2.1 = ky [112, 114, 105, 110, 116] :: (y.tk.1 ++ [kSemi]) := by rw [Tr.tk_eq, hks, hk]; rfl
    rw [ht, hkk]
    have := (LX.key (w := [112, 114, 105, 110, 116]) (by decide +kernel) (okc (by decide) _) (LX.blank (q0.lx _ _ (okc (by decide) _) (LX.semi h))))
    simpa only [List.append_assoc, List.cons_append, List.nil_append] using this
  · obtain ⟨y, hks⟩ := List.length_eq_one_iff.1 hn
    rw [hks, hk] at hr
    rw [hks] at he hs
    have q0 := he y (by simp) (hr 0 y rfl)
    have ht : x.tx.2.1 = [114, 101, 116, 117, 114, 110, 32] ++ y.tx.1 ++ [59] := by rw [Tr.tx_eq, hks, hk]; rfl
    have hkk : x.tk.2.1 = ky [114, 101, 116, 117, 114, 110] :: (y.tk.1 ++ [kSemi]) := by rw [Tr.tk_eq, hks, hk]; rfl
    rw [ht, hkk]
    have := (LX.key (w := [114, 101, 116, 117, 114, 110]) (by decide +kernel) (okc (by decide) _) (LX.blank (q0.lx _ _ (okc (by decide) _) (LX.semi h))))
    simpa only [List.append_assoc, List.cons_append, List.nil_append] using this
  · obtain ⟨y, hks⟩ := List.length_eq_one_iff.1 hn
    rw [hks, hk] at hr
    rw [hks] at he hs
    have q0 := he y (by simp) (hr 0 y rfl)
    have ht : x.tx.2.1 = y.tx.1 ++ [59] := by rw [Tr.tx_eq, hks, hk]; rfl
    have hkk : x.tk.2.1 = y.tk.1 ++ [kSemi] := by rw [Tr.tk_eq, hks, hk]; rfl
    rw [ht, hkk]
    have := (q0.lx _ _ (okc (by decide) _) (LX.semi h))
    simpa only [List.append_assoc, List.cons_append, List.nil_append] using this
  · obtain ⟨y, z, u, hks⟩ := three_of hn
    rw [hks, hk] at hr
    rw [hks] at he hs
    have q0 := he y (by simp) (hr 0 y rfl)
    have q1 := hs z (by simp) (hr 1 z rfl)
    have q2 := hs u (by simp) (hr 2 u rfl)
    have ht : x.tx.2.1 = [105, 102, 32, 40] ++ y.tx.1 ++ [41, 32] ++ braceS (z.kids.map (·.tx.2.1)) ++ (if u.kids = [] then [] else [32, 101, 108, 115, 101, 32] ++ braceS (u.kids.map (·.tx.2.1))) := by rw [Tr.tx_eq, hks, hk, ← bl_tx, ← bl_tx]; rfl
    have hkk : x.tk.2.1 = ky [105, 102] :: kOpen :: (y.tk.1 ++ kShut :: (z.tk.2.2 ++ (if u.kids = [] then [] else kElse :: u.tk.2.2))) := by rw [Tr.tk_eq, hks, hk]; rfl
    rw [ht, hkk, QB.tk, QB.tk]
    by_cases hu : u.kids = []
    · rw [if_pos hu, if_pos hu]
      have := (LX.key (w := [105, 102]) (by decide +kernel) (okc (by decide) _) (LX.blank (LX.one (c := 40) (by decide) (q0.lx _ _ (okc (by decide) _) (LX.one (c := 41) (by decide) (LX.blank (braceL q1 R l h)))))))
      simpa only [List.append_assoc, List.cons_append, List.nil_append] using this
    · rw [if_neg hu, if_neg hu]
      have := (LX.key (w := [105, 102]) (by decide +kernel) (okc (by decide) _) (LX.blank (LX.one (c := 40) (by decide) (q0.lx _ _ (okc (by decide) _) (LX.one (c := 41) (by decide) (LX.blank (braceL q1 _ _ (LX.blank (LX.key (w := [101, 108, 115, 101]) (by decide +kernel) (okc (by decide) _) (LX.blank (braceL q2 R l h)))))))))))
      simpa only [List.append_assoc, List.cons_append, List.nil_append] using this
  · obtain ⟨y, z, hks⟩ := two_of hn
    rw [hks, hk] at hr
    rw [hks] at he hs
    have q0 := he y (by simp) (hr 0 y rfl)
    have q1 := hs z (by simp) (hr 1 z rfl)
    have ht : x.tx.2.1 = [119, 104, 105, 108, 101, 32, 40] ++ y.tx.1 ++ [41, 32] ++ braceS (z.kids.map (·.tx.2.1)) := by rw [Tr.tx_eq, hks, hk, ← bl_tx]; rfl
    have hkk : x.tk.2.1 = ky [119, 104, 105, 108, 101] :: kOpen :: (y.tk.1 ++ kShut :: kBr :: ((z.kids.map (·.tk.2.1)).flatten ++ [kBrE])) := by rw [Tr.tk_eq, hks, hk, ← QB.tk]; rfl
    rw [ht, hkk]
    have := (LX.key (w := [119, 104, 105, 108, 101]) (by decide +kernel) (okc (by decide) _) (LX.blank (LX.one (c := 40) (by decide) (q0.lx _ _ (okc (by decide) _) (LX.one (c := 41) (by decide) (LX.blank (braceL q1 R l h)))))))
    simpa only [List.append_assoc, List.cons_append, List.nil_append] using this
theorem tells (x : Tr) : (RightT x 1 → LE x ∧ QE x ∧ 1 ≤ x.rank) ∧ (RightT x 2 → LS x ∧ QS x) ∧ (RightT x 3 → (∀ y ∈ x.kids, LS y) ∧ QB x) := by
  induction x using Tr.ind with
  | h x ih =>
    refine ⟨fun h => ?_, fun h => ?_, fun h => ?_⟩
    · rw [right_iff, own1_iff] at h
      obtain ⟨hp, hr⟩ := h
      have hk := hp.kind
      have j1 : x.kind ≠ 8 → ∀ y ∈ x.kids, LE y ∧ QE y ∧ 1 ≤ y.rank := fun h8 y hy => by
        obtain ⟨j, hj⟩ := List.getElem?_of_mem hy
        have := hr j y hj
        rw [show wantP x.kind j = 1 from by unfold wantP; rw [if_neg (by omega), if_neg (by omega)]] at this
        exact (ih y hy).1 this
      have j2 : x.kind = 8 → ∀ y ∈ x.kids, LS y ∧ QS y := fun h8 y hy => by
        obtain ⟨j, hj⟩ := List.getElem?_of_mem hy
        have := hr j y hj
        rw [show wantP x.kind j = 2 from by unfold wantP; rw [if_pos (by omega)]] at this
        exact (ih y hy).2.1 this
      have hrank : 1 ≤ x.rank := by
        unfold Tr.rank rankP
        (repeat' split) <;> omega
      refine ⟨le_expr hp (fun h8 y hy => (j1 h8 y hy).1) (fun h8 y hy => (j2 h8 y hy).1), ?_, hrank⟩
      have k1 : x.kind ≠ 8 → QK x.kids := fun h8 y hy => (j1 h8 y hy).2
      unfold ExprP at hp
      rcases hp with ⟨hk | hk, hb, hn⟩ | ⟨hk, hb, hv, hn⟩ | ⟨hk, hb, -, -, hn⟩ | ⟨hk, hb, -, hn⟩ | ⟨hk, hb, hi, hn⟩ | ⟨hk, hb, -, -, hn⟩ | ⟨hk, hb, -⟩ | ⟨hk, hb, ho, hn⟩ | ⟨hk, hb, ho1, ho2, hn⟩ | ⟨hk, hb, hn⟩ | ⟨hk, hb, -, hn⟩ | ⟨hk, hb, hn, -⟩ | ⟨hk, hb, -, hn, -⟩ | ⟨hk, hb, ho1, ho2, -⟩
      · exact q_1 hk hb (List.length_eq_zero_iff.1 hn)
      · exact q_6 hk hb (List.length_eq_zero_iff.1 hn)
      · exact q_2 hk hb hv (List.length_eq_zero_iff.1 hn)
      · exact q_3 hk hb (List.length_eq_zero_iff.1 hn)
      · exact q_4 hk hb (List.length_eq_zero_iff.1 hn)
      · exact q_5 hk hb hi.2 (List.length_eq_zero_iff.1 hn)
      · exact q_7 hk hb hn (k1 (by omega))
      · exact q_8 hk hb fun y hy => (j2 hk y hy).2
      · obtain ⟨y, hks⟩ := List.length_eq_one_iff.1 hn
        have := k1 (by omega) y (by rw [hks]; simp)
        exact q_9 hk hb ho hks this.1 this.2
      · obtain ⟨y, z, hks⟩ := two_of hn
        have a := k1 (by omega) y (by rw [hks]; simp)
        have b := k1 (by omega) z (by rw [hks]; simp)
        exact q_10 hk hb ho1 ho2 hks a.1 a.2 b.1 b.2
      · obtain ⟨y, z, hks⟩ := two_of hn
        have a := k1 (by omega) y (by rw [hks]; simp)
        have b := k1 (by omega) z (by rw [hks]; simp)
        rcases hk with hk | hk | hk
        · exact q_11 (.inl hk) hb hks a.1 a.2 b.1 b.2
        · exact q_11 (.inr hk) hb hks a.1 a.2 b.1 b.2
        · exact q_14 hk hb hks a.1 a.2 b.1 b.2
      · obtain ⟨y, hks⟩ := List.length_eq_one_iff.1 hn
        have a := k1 (by omega) y (by rw [hks]; simp)
        exact q_13 hk hb hks a.1 a.2
      · obtain ⟨y, r, hks⟩ := some_of hn
        have a := k1 (by omega)
        rw [hks] at a
        exact q_15 hk hb hks (a y (by simp)).1 (a y (by simp)).2 a.tail
      · obtain ⟨y, r, hks⟩ := some_of hn
        have a := k1 (by omega)
        rw [hks] at a
        exact q_16 hk hb hks (a y (by simp)).1 (a y (by simp)).2 a.tail
      · exact q_17 hk hb ho1 ho2 (k1 (by omega))
    · rw [right_iff, own2_iff] at h
      obtain ⟨hp, hr⟩ := h
      refine ⟨ls_stmt hp hr (fun y hy h => ((ih y hy).1 h).1) (fun y hy h => ((ih y hy).2.2 h).1), ?_⟩
      have e1 : ∀ {j y}, x.kids[j]? = some y → wantP x.kind j = 1 → QE y ∧ 1 ≤ y.rank := fun {j y} hj hw => ((ih y (List.mem_of_getElem? hj)).1 (hw ▸ hr j y hj)).2
      have e3 : ∀ {j y}, x.kids[j]? = some y → wantP x.kind j = 3 → QB y := fun {j y} hj hw => ((ih y (List.mem_of_getElem? hj)).2.2 (hw ▸ hr j y hj)).2
      obtain ⟨hb, hp⟩ := hp
      have hbs : x.str = ⟨#[]⟩ → BareP x true true true true := fun h => ⟨hb.1, hb.2.1, fun _ => h, hb.2.2.2⟩
      rcases hp with ⟨hk | hk, hi, hn⟩ | ⟨hk, hi, hn⟩ | ⟨hk, hi, hn⟩ | ⟨hz, ⟨hk, hn⟩ | ⟨hk, hn⟩ | ⟨hk | hk | hk, hn⟩ | ⟨hk, hn⟩ | ⟨hk, hn⟩⟩
      · obtain ⟨y, hks⟩ := List.length_eq_one_iff.1 hn
        have a := e1 (j := 0) (y := y) (by rw [hks]; rfl) (by rw [hk]; rfl)
        exact s_21 hk hb hks a.1 a.2
      · obtain ⟨y, hks⟩ := List.length_eq_one_iff.1 hn
        have a := e1 (j := 0) (y := y) (by rw [hks]; rfl) (by rw [hk]; rfl)
        exact s_22 hk hb hi.2 hks a.1 a.2
      · obtain ⟨y, z, hks⟩ := two_of hn
        have a := e1 (j := 0) (y := y) (by rw [hks]; rfl) (by rw [hk]; rfl)
        have b := e1 (j := 1) (y := z) (by rw [hks]; rfl) (by rw [hk]; rfl)
        exact s_23 hk hb hks a.1 a.2 b.1 b.2
      · obtain ⟨y, hks⟩ := List.length_eq_one_iff.1 hn
        have a := e1 (j := 0) (y := y) (by rw [hks]; rfl) (by rw [hk]; rfl)
        exact s_25 hk hb hks a.1 a.2
      · obtain ⟨y, z, u, hks⟩ := three_of hn
        have a := e1 (j := 0) (y := y) (by rw [hks]; rfl) (by rw [hk]; rfl)
        have b := e1 (j := 1) (y := z) (by rw [hks]; rfl) (by rw [hk]; rfl)
        have c := e1 (j := 2) (y := u) (by rw [hks]; rfl) (by rw [hk]; rfl)
        exact s_24 hk (hbs hz) hks a.1 a.2 b.1 b.2 c.1 c.2
      · obtain ⟨y, z, hks⟩ := two_of hn
        have a := e1 (j := 0) (y := y) (by rw [hks]; rfl) (by rw [hk]; rfl)
        have b := e1 (j := 1) (y := z) (by rw [hks]; rfl) (by rw [hk]; rfl)
        exact s_26 hk (hbs hz) hks a.1 a.2 b.1 b.2
      · obtain ⟨y, hks⟩ := List.length_eq_one_iff.1 hn
        have a := e1 (j := 0) (y := y) (by rw [hks]; rfl) (by rw [hk]; rfl)
        exact s_key (.inl ⟨rfl, rfl⟩) hk (hbs hz) hks a.1 a.2
      · obtain ⟨y, hks⟩ := List.length_eq_one_iff.1 hn
        have a := e1 (j := 0) (y := y) (by rw [hks]; rfl) (by rw [hk]; rfl)
        exact s_key (.inr ⟨rfl, rfl⟩) hk (hbs hz) hks a.1 a.2
      · obtain ⟨y, hks⟩ := List.length_eq_one_iff.1 hn
        have a := e1 (j := 0) (y := y) (by rw [hks]; rfl) (by rw [hk]; rfl)
        exact s_32 hk (hbs hz) hks a.1 a.2
      · obtain ⟨y, z, u, hks⟩ := three_of hn
        have a := e1 (j := 0) (y := y) (by rw [hks]; rfl) (by rw [hk]; rfl)
        exact s_28 hk (hbs hz) hks a.1 a.2 (e3 (j := 1) (y := z) (by rw [hks]; rfl) (by rw [hk]; rfl)) (e3 (j := 2) (y := u) (by rw [hks]; rfl) (by rw [hk]; rfl))
      · obtain ⟨y, z, hks⟩ := two_of hn
        have a := e1 (j := 0) (y := y) (by rw [hks]; rfl) (by rw [hk]; rfl)
        exact s_30 hk (hbs hz) hks a.1 a.2 (e3 (j := 1) (y := z) (by rw [hks]; rfl) (by rw [hk]; rfl))
    · rw [right_iff, own3_iff] at h
      obtain ⟨⟨hk, hb, -⟩, hr⟩ := h
      have j2 : ∀ y ∈ x.kids, LS y ∧ QS y := fun y hy => by
        obtain ⟨j, hj⟩ := List.getElem?_of_mem hy
        have := hr j y hj
        rw [show wantP x.kind j = 2 from by unfold wantP; rw [if_pos (by omega)]] at this
        exact (ih y hy).2.1 this
      exact ⟨fun y hy => (j2 y hy).1, ⟨flat_of hk (hb.1 rfl) (hb.2.1 rfl) (hb.2.2.1 rfl) hb.nm rfl, fun y hy => (j2 y hy).2⟩⟩
theorem joinL : ∀ {ks : List Tr}, (∀ y ∈ ks, LS y) → LX (joinS [32] (ks.map (·.tx.2.1))) (ks.map (·.tk.2.1)).flatten
  | [], _ => LX.nil
  | [y], hk => by
    have := hk y (by simp) [] [] LX.nil
    show LX y.tx.2.1 (y.tk.2.1 ++ [])
    rwa [List.append_nil] at this
  | y :: z :: ks, hk => by
    have h1 := hk y (by simp) _ _ (joinL (ks := z :: ks) fun u hu => hk u (List.mem_cons_of_mem _ hu)).blank
    show LX (y.tx.2.1 ++ [32] ++ joinS [32] ((z :: ks).map (·.tx.2.1))) (y.tk.2.1 ++ ((z :: ks).map (·.tk.2.1)).flatten)
    simpa only [List.append_assoc, List.cons_append, List.nil_append] using h1
theorem Ev.uniq {α : Type} {g : Nat → Option α} {a b : α} (h : Ev fun f => g f = some a) (k : Ev fun f => g f = some b) : a = b := by
  obtain ⟨f0, h⟩ := h
  obtain ⟨g0, k⟩ := k
  have h1 := h (max f0 g0) (by omega)
  have h2 := k (max f0 g0) (by omega)
  have h1 : g (max f0 g0) = some a := h1
  have h2 : g (max f0 g0) = some b := h2
  rw [h1] at h2
  exact Option.some.inj h2
/-- Right programs with one text are alike. -/
theorem txt_tells {a b : Tr} (ra : RightT a 3) (rb : RightT b 3) (h : a.txt = b.txt) : a.flat = b.flat := by
  obtain ⟨la, qa⟩ := (tells a).2.2 ra
  obtain ⟨lb, qb⟩ := (tells b).2.2 rb
  have h1 : LX a.txt _ := joinL la
  have h2 : LX b.txt _ := joinL lb
  rw [h] at h1
  have e := Ev.uniq h1 h2
  have p1 := pT_ok qa.kids
  have p2 := pT_ok qb.kids
  rw [e] at p1
  rw [qa.flat, qb.flat, Ev.uniq p1 p2]
/-! Alike ones have one text. -/
theorem flat_kind (x : Tr) : x.flat.kind = x.kind ∧ x.flat.op = x.op ∧ x.flat.num = x.num ∧ x.flat.str = x.str ∧ x.flat.names = x.names ∧ x.flat.kids = x.kids.map Tr.flat := by rw [flat_mk]; exact ⟨rfl, rfl, rfl, rfl, rfl, rfl⟩
theorem kidT_flat (ks : List Tr) (i : Nat) : kidT (ks.map Tr.flat) i = (kidT ks i).flat := by
  unfold kidT
  rw [List.getD_eq_getElem?_getD, List.getD_eq_getElem?_getD, List.getElem?_map]
  cases ks[i]? <;> rfl
theorem rank_flat (x : Tr) : x.flat.rank = x.rank := by unfold Tr.rank; rw [(flat_kind x).1, (flat_kind x).2.1]
theorem atS_flat (l : Int) (x : Tr) (t : List UInt8) : atS l x.flat t = atS l x t := by unfold atS; rw [rank_flat]
theorem exprF_flat (k o n : Int) (s : ByteArray) (ns : List ByteArray) (ks : List Tr) (ts : List Tx3) : exprF k o n s ns (ks.map Tr.flat) ts = exprF k o n s ns ks ts := by
  unfold exprF
  simp only [kidT_flat, atS_flat, (flat_kind _).1]
theorem stmtF_flat (k : Int) (s : ByteArray) (ks : List Tr) (ts : List Tx3) : stmtF k s (ks.map Tr.flat) ts = stmtF k s ks ts := by
  unfold stmtF
  simp only [kidT_flat, atS_flat, (flat_kind _).2.2.2.2.2, List.map_eq_nil_iff]
theorem tx_flat (x : Tr) : x.flat.tx = x.tx := by
  induction x using Tr.ind with
  | h x ih =>
    have hm : (x.kids.map Tr.flat).map Tr.tx = x.kids.map Tr.tx := by
      rw [List.map_map]
      exact List.map_congr_left ih
    have hm2 : (x.kids.map Tr.flat).map (fun y : Tr => y.tx.2.1) = x.kids.map fun y : Tr => y.tx.2.1 := by
      rw [List.map_map]
      exact List.map_congr_left fun y hy => by show (y.flat.tx).2.1 = _; rw [ih y hy]
    obtain ⟨e1, e2, e3, e4, e5, e6⟩ := flat_kind x
    rw [Tr.tx_eq x.flat, Tr.tx_eq x, e1, e2, e3, e4, e5, e6, hm, hm2, exprF_flat, stmtF_flat]
theorem txt_flat {a b : Tr} (h : a.flat = b.flat) : a.txt = b.txt := by
  have key : ∀ x : Tr, x.flat.txt = x.txt := fun x => by
    unfold Tr.txt
    rw [(flat_kind x).2.2.2.2.2, List.map_map]
    exact congrArg _ (List.map_congr_left fun y hy => by show (y.flat.tx).2.1 = _; rw [tx_flat])
  rw [← key a, ← key b, h]
end Go.Proofs.Ytmglmjbjgfbdjaa
