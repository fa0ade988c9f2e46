/- Part 1 of the proof: RowBoundRises. -/
import Derived.Calls
import Derived.Orders
import Derived.Laws.Sem
import Derived.Laws.World
import Derived.Laws.Tables
import Derived.Laws.StructEq
import Derived.MapKept
set_option linter.unusedSimpArgs false
set_option linter.unusedVariables false
/- ABSTRACT VALUES AND STATES (1): deep values, what they stand for in a world, and how a world may go on beneath them. No program in sight. -/
namespace Go.Fv

/-- Deep values: what a value of the machine comes to, memory read along. Own blocks have names (numbers); frozen rows bear what they hold. -/
inductive DV where
  | int (k : IntKind) (n : Int)
  | bool (b : Bool)
  | nilp
  | nilsl
  | nilmp
  | nilfn
  | agg (cs : List DV)
  | tup (cs : List DV)
  | ptr (b r c : Nat)
  | fp (cs : List DV)
  | sl (k b i n : Nat)
  | fz (k : Nat) (rows : List (List DV))
  | mp (b : Nat)
  | fn (f : Nat) (first caps : List DV)
  | any
  deriving Inhabited

/-- An own block: rows of k cells, or a map. -/
inductive Blk where
  | rows (k : Nat) (rs : List (List DV))
  | map (es : List (DV × DV))
  deriving Inhabited

/-- Where an own block lies. -/
structure Place where
  blk : Nat
  off : Nat
  k : Nat
  vir : Bool
  deriving Inhabited

abbrev adr (b o : Nat) : Addr := ⟨b, o, none⟩

/-- The greatest length of a slice that is spoken of. -/
def maxL : Nat := 2 ^ 48

inductive RepV (w : World) (F : Nat → Prop) (ρ : Nat → Place) (N : Nat → Prop) : DV → Value → Prop
  | int (k n) : RepV w F ρ N (.int k n) (.int k n)
  | bool (b) : RepV w F ρ N (.bool b) (.bool b)
  | nilp : RepV w F ρ N .nilp (.pointer none)
  | nilsl : RepV w F ρ N .nilsl (.slice none 0 0)
  | nilmp : RepV w F ρ N .nilmp (.map none)
  | nilfn : RepV w F ρ N .nilfn .nilFunc
  | agg (cs : List DV) (vs : Array Value) (hl : cs.length = vs.size)
      (h : ∀ (i : Nat) (d : DV) (v : Value), cs[i]? = some d → vs[i]? = some v → RepV w F ρ N d v) : RepV w F ρ N (.agg cs) (.agg vs)
  | tup (cs : List DV) (vs : Array Value) (hl : cs.length = vs.size)
      (h : ∀ (i : Nat) (d : DV) (v : Value), cs[i]? = some d → vs[i]? = some v → RepV w F ρ N d v) : RepV w F ρ N (.tup cs) (.tuple vs)
  | ptr (b r c) (hN : N b) (hv : (ρ b).vir = false) :
      RepV w F ρ N (.ptr b r c) (.pointer (some (adr (ρ b).blk ((ρ b).off + r * (ρ b).k + c))))
  | fp (cs : List DV) (a o : Nat) (vals : Nat → Value) (hF : F a)
      (hc : ∀ i, i < cs.length → w.cell? (adr a (o + i)) = some (vals i))
      (h : ∀ (i : Nat) (d : DV), cs[i]? = some d → RepV w F ρ N d (vals i)) : RepV w F ρ N (.fp cs) (.pointer (some (adr a o)))
  | sl (k b i n i' cap) (hN : N b) (hk : (ρ b).k = k) (hv : (ρ b).vir = false) (hn : n ≤ cap) (hm : n ≤ maxL) (hi : i' = i ∨ (n = 0 ∧ cap = 0 ∧ i' ≤ i))
      (cs : Array Value) (ty : TypeId) (hb : w.heap[(ρ b).blk]? = some (.cells cs ty (0, 0))) (hs : (ρ b).off + (i + cap) * k ≤ cs.size) :
      RepV w F ρ N (.sl k b i n) (.slice (some (adr (ρ b).blk ((ρ b).off + i' * k))) n cap)
  | slv (k b) (hN : N b) (hk : (ρ b).k = k) (hv : (ρ b).vir = true) : RepV w F ρ N (.sl k b 0 0) (.slice none 0 0)
  | fz (k : Nat) (rows : List (List DV)) (a o cap : Nat) (vals : Nat → Nat → Value) (hF : F a) (hcap : rows.length ≤ cap) (hm : rows.length ≤ maxL)
      (hk : ∀ r ∈ rows, r.length = k)
      (hc : ∀ i j, i < rows.length → j < k → w.cell? (adr a (o + i * k + j)) = some (vals i j) ∧ (vals i j).oneCell' = true)
      (h : ∀ (i j : Nat) (r : List DV) (d : DV), rows[i]? = some r → r[j]? = some d → RepV w F ρ N d (vals i j)) :
      RepV w F ρ N (.fz k rows) (.slice (some (adr a o)) rows.length cap)
  | fznil (k : Nat) : RepV w F ρ N (.fz k []) (.slice none 0 0)
  | mp (b) (hN : N b) : RepV w F ρ N (.mp b) (.map (some (ρ b).blk))
  | fn (f : Nat) (first caps : List DV) (fs cs : Array Value) (hf : first.length = fs.size) (hc : caps.length = cs.size)
      (h1 : ∀ (i : Nat) (d : DV) (v : Value), first[i]? = some d → fs[i]? = some v → RepV w F ρ N d v)
      (h2 : ∀ (i : Nat) (d : DV) (v : Value), caps[i]? = some d → cs[i]? = some v → RepV w F ρ N d v) : RepV w F ρ N (.fn f first caps) (.func (.func f) fs cs)
  | any (v : Value) (h : v.oneCell' = true) : RepV w F ρ N .any v

/-- How a world may go on: no block goes, rows of cells keep their size. -/
structure Ev (w w' : World) : Prop where
  size : w.heap.size ≤ w'.heap.size
  cells : ∀ (b : Nat) (cs : Array Value) (ty : TypeId), w.heap[b]? = some (.cells cs ty (0, 0)) → ∃ cs' : Array Value, w'.heap[b]? = some (.cells cs' ty (0, 0)) ∧ cs'.size = cs.size

theorem Ev.refl (w : World) : Ev w w := ⟨Nat.le_refl _, fun _ cs _ h => ⟨cs, h, rfl⟩⟩
theorem Ev.trans {a b c : World} (h : Ev a b) (k : Ev b c) : Ev a c :=
  ⟨Nat.le_trans h.size k.size, fun x cs ty hx =>
    let ⟨cs', h1, s1⟩ := h.cells x cs ty hx
    let ⟨cs'', h2, s2⟩ := k.cells x cs' ty h1
    ⟨cs'', h2, s2.trans s1⟩⟩

theorem cell?_heap {w w' : World} {b o : Nat} (h : w'.heap[b]? = w.heap[b]?) : w'.cell? (adr b o) = w.cell? (adr b o) := by
  simp only [World.cell?, h]

theorem RepV.mono {w w' : World} {F F' : Nat → Prop} {ρ ρ' : Nat → Place} {N N' : Nat → Prop} (hE : Ev w w')
    (hF : ∀ a, F a → F' a ∧ w'.heap[a]? = w.heap[a]?) (hN : ∀ n, N n → N' n ∧ ρ' n = ρ n) {d : DV} {v : Value}
    (h : RepV w F ρ N d v) : RepV w' F' ρ' N' d v := by
  induction h with
  | int k n => exact .int k n
  | bool b => exact .bool b
  | nilp => exact .nilp
  | nilsl => exact .nilsl
  | nilmp => exact .nilmp
  | nilfn => exact .nilfn
  | agg cs vs hl _ ih => exact .agg cs vs hl ih
  | tup cs vs hl _ ih => exact .tup cs vs hl ih
  | ptr b r c hb hv => have := (hN b hb).2; rw [← this] at hv ⊢; exact .ptr b r c (hN b hb).1 hv
  | fp cs a o vals ha hc _ ih => exact .fp cs a o vals (hF a ha).1 (fun i hi => by rw [cell?_heap (hF a ha).2]; exact hc i hi) ih
  | sl k b i n i' cap hb hk hv hn hm hi cs ty hc hs =>
    have e := (hN b hb).2
    obtain ⟨cs', h1, s1⟩ := hE.cells _ _ _ hc
    rw [← e] at hk hv h1 hs ⊢
    exact .sl k b i n i' cap (hN b hb).1 hk hv hn hm hi cs' ty h1 (by rw [s1]; exact hs)
  | slv k b hb hk hv => have e := (hN b hb).2; rw [← e] at hk hv; exact .slv k b (hN b hb).1 hk hv
  | fz k rows a o cap vals ha hcap hm hk hc _ ih =>
    exact .fz k rows a o cap vals (hF a ha).1 hcap hm hk (fun i j hi hj => by rw [cell?_heap (hF a ha).2]; exact hc i j hi hj) ih
  | fznil k => exact .fznil k
  | mp b hb => have e := (hN b hb).2; rw [← e]; exact .mp b (hN b hb).1
  | fn f first caps fs cs hf hc _ _ ih1 ih2 => exact .fn f first caps fs cs hf hc ih1 ih2
  | any v hv => exact .any v hv

/-- An own block lies in the world as it is told. -/
def BlkOk (w : World) (F : Nat → Prop) (ρ : Nat → Place) (N : Nat → Prop) (n : Nat) : Blk → Prop
  | .rows k rs => (ρ n).k = k ∧ (∀ r ∈ rs, r.length = k) ∧
      (((ρ n).vir = true ∧ rs = []) ∨
       ((ρ n).vir = false ∧ ∃ (cs : Array Value) (ty : TypeId), w.heap[(ρ n).blk]? = some (.cells cs ty (0, 0)) ∧ (ρ n).off + rs.length * k ≤ cs.size ∧
         ∀ (i j : Nat) (r : List DV) (d : DV), rs[i]? = some r → r[j]? = some d → ∃ v, cs[(ρ n).off + i * k + j]? = some v ∧ v.oneCell' = true ∧ RepV w F ρ N d v))
  | .map es => (ρ n).vir = false ∧ ∃ (en : Array MapEntry) (ck : Nat), w.heap[(ρ n).blk]? = some (.map en ck) ∧ en.size = es.length ∧
      ∀ (i : Nat) (x : DV × DV) (e : MapEntry), es[i]? = some x → en[i]? = some e → RepV w F ρ N x.1 e.key ∧ RepV w F ρ N x.2 e.val

/-- All own blocks lie so, apart from each other and from what is frozen. -/
structure HOk (w : World) (F : Nat → Prop) (ρ : Nat → Place) (N : Nat → Prop) (h : Nat → Option Blk) : Prop where
  ok : ∀ n B, h n = some B → N n ∧ BlkOk w F ρ N n B
  inj : ∀ n m B C, h n = some B → h m = some C → n ≠ m → (ρ n).vir = false → (ρ m).vir = false → (ρ n).blk ≠ (ρ m).blk
  fr : ∀ a, F a → a < w.heap.size ∧ ∀ n B, h n = some B → (ρ n).vir = false → (ρ n).blk ≠ a

def Owned (ρ : Nat → Place) (h : Nat → Option Blk) (b : Nat) : Prop := ∃ n B, h n = some B ∧ (ρ n).vir = false ∧ (ρ n).blk = b

/-- A sound step from a world with own blocks h to one with own blocks h'. -/
structure Tr (w : World) (F : Nat → Prop) (ρ : Nat → Place) (N : Nat → Prop) (h : Nat → Option Blk)
    (w' : World) (F' : Nat → Prop) (ρ' : Nat → Place) (N' : Nat → Prop) (h' : Nat → Option Blk) : Prop where
  H : HOk w' F' ρ' N' h'
  ev : Ev w w'
  same : ∀ b, b < w.heap.size → ¬ Owned ρ h b → w'.heap[b]? = w.heap[b]?
  nm : ∀ n, N n → N' n ∧ ρ' n = ρ n
  own : ∀ b, Owned ρ' h' b → w.heap.size ≤ b ∨ Owned ρ h b
  f1 : ∀ a, F a → F' a
  f2 : ∀ a, F' a → F a ∨ w.heap.size ≤ a ∨ Owned ρ h a
  os : w'.os = w.os
  tape : w'.tape = w.tape
  out : w'.output = w.output

section
variable {w w' w'' : World} {F F' F'' : Nat → Prop} {ρ ρ' ρ'' : Nat → Place} {N N' N'' : Nat → Prop} {h h' h'' : Nat → Option Blk}

theorem Tr.refl (H : HOk w F ρ N h) : Tr w F ρ N h w F ρ N h :=
  ⟨H, Ev.refl w, fun _ _ _ => rfl, fun _ hn => ⟨hn, rfl⟩, fun _ hb => .inr hb, fun _ ha => ha, fun _ ha => .inl ha, rfl, rfl, rfl⟩

theorem HOk.not_owned (H : HOk w F ρ N h) {a : Nat} (ha : F a) : ¬ Owned ρ h a :=
  fun ⟨n, B, hn, hv, hb⟩ => (H.fr a ha).2 n B hn hv hb

theorem Tr.trans (s : Tr w F ρ N h w' F' ρ' N' h') (t : Tr w' F' ρ' N' h' w'' F'' ρ'' N'' h'') :
    Tr w F ρ N h w'' F'' ρ'' N'' h'' where
  H := t.H
  ev := s.ev.trans t.ev
  same b hb ho := by
    have h1 := s.same b hb ho
    rw [← h1]
    refine t.same b (Nat.lt_of_lt_of_le hb s.ev.size) fun hO => ?_
    rcases s.own b hO with h2 | h2
    · omega
    · exact ho h2
  nm n hn := ⟨(t.nm n (s.nm n hn).1).1, (t.nm n (s.nm n hn).1).2.trans (s.nm n hn).2⟩
  own b hb := by
    rcases t.own b hb with h1 | h1
    · exact .inl (Nat.le_trans s.ev.size h1)
    · exact s.own b h1
  f1 a ha := t.f1 a (s.f1 a ha)
  f2 a ha := by
    rcases t.f2 a ha with h1 | h1 | h1
    · exact s.f2 a h1
    · exact .inr (.inl (Nat.le_trans s.ev.size h1))
    · rcases s.own a h1 with h2 | h2
      · exact .inr (.inl h2)
      · exact .inr (.inr h2)
  os := t.os.trans s.os
  tape := t.tape.trans s.tape
  out := t.out.trans s.out

theorem Tr.rep (H : HOk w F ρ N h) (s : Tr w F ρ N h w' F' ρ' N' h') {d : DV} {v : Value} (hv : RepV w F ρ N d v) : RepV w' F' ρ' N' d v :=
  hv.mono s.ev (fun a ha => ⟨s.f1 a ha, s.same a (H.fr a ha).1 (H.not_owned ha)⟩) s.nm

theorem BlkOk.mono (hE : Ev w w') (hF : ∀ a, F a → F' a ∧ w'.heap[a]? = w.heap[a]?) (hN : ∀ n, N n → N' n ∧ ρ' n = ρ n)
    {n : Nat} {B : Blk} (hn : N n) (hb : (ρ n).vir = false → w'.heap[(ρ n).blk]? = w.heap[(ρ n).blk]?) (ho : BlkOk w F ρ N n B) : BlkOk w' F' ρ' N' n B := by
  have e := (hN n hn).2
  cases B with
  | rows k rs =>
    obtain ⟨hk, hr, hv | ⟨hv, cs, ty, hc, hs, hd⟩⟩ := ho
    · exact ⟨by rw [e]; exact hk, hr, .inl ⟨by rw [e]; exact hv.1, hv.2⟩⟩
    · refine ⟨by rw [e]; exact hk, hr, .inr ⟨by rw [e]; exact hv, cs, ty, ?_, by rw [e]; exact hs, ?_⟩⟩
      · rw [e, hb hv]; exact hc
      · intro i j r d h1 h2
        obtain ⟨v, h3, h4, h5⟩ := hd i j r d h1 h2
        exact ⟨v, by rw [e]; exact h3, h4, h5.mono hE hF hN⟩
  | map es =>
    obtain ⟨hv, en, ck, hc, hs, hd⟩ := ho
    refine ⟨by rw [e]; exact hv, en, ck, by rw [e, hb hv]; exact hc, hs, ?_⟩
    intro i x en h1 h2
    exact ⟨(hd i x en h1 h2).1.mono hE hF hN, (hd i x en h1 h2).2.mono hE hF hN⟩
end
end Go.Fv
/- ABSTRACT VALUES AND STATES (2): the code without its trimmings, what the types come to, and what each operation does to an abstract state. -/
namespace Go.Fv

/-- An operand. -/
inductive O where
  | t (n : Nat)
  | c (d : DV)
  deriving Inhabited

/-- An operation, without its trimmings. -/
inductive SOp where
  | mv (x : O)
  | pick (c a b : O)
  | alloc (t : Nat)
  | box (t : Nat) (x : O)
  | build (t : Nat) (ps : List (Nat × O))
  | bsl (t n : Nat) (ps : List (Nat × O))
  | load (t : Nat) (a : O)
  | store (t : Nat) (a x : O)
  | nilck (x : O)
  | bin (op : BinOp) (t : Nat) (x y : O)
  | un (op : UnOp) (x : O)
  | conv (s d : Nat) (x : O)
  | mkfn (f : Nat) (a c : List O)
  | mkmap (t : Nat)
  | mksl (t : Nat) (l c : O)
  | slice (t : Nat) (x : O) (lo hi mx : Option O)
  | faddr (t : Nat) (x : O) (f : Nat)
  | iaddr (t : Nat) (x i : O)
  | lkp (t : Nat) (x i : O) (ok : Bool)
  | mupd (t : Nat) (m k v : O)
  | ext (x : O) (i : Nat)
  | call (f : O) (args : List O)
  | len (t : Nat) (x : O)
  | cap (t : Nat) (x : O)
  | app (t u : Nat) (x y : O)
  | copy (t u : Nat) (x y : O)
  | clear (t : Nat) (x : O)
  | max (x y : O)
  | min (x y : O)
  | bad
  deriving Inhabited

/-- dst: the slot it writes; gd: the slot that tells whether it is done at all. -/
structure SO where
  dst : Option Nat
  op : SOp
  gd : Option (Nat × Bool)
  deriving Inhabited

inductive SC where
  | skip
  | rg (ops : List SO)
  | dr (ops : List SO) (after : List (List Nat))
  | seq (a b : SC)
  | cond (c : O) (a b : SC)
  | block (id : Nat) (a : SC)
  | loop (a : SC)
  | exit (id : Nat)
  | ret
  | bad
  /-- Here the state may be told otherwise. -/
  | sub (a : SC)
  deriving Inhabited

-- from the machine's code ------------------------------------------------------------------------------------------------------------

def ofS : Value → DV
  | .int k n => .int k n
  | .bool b => .bool b
  | .pointer none => .nilp
  | .slice none 0 0 => .nilsl
  | .map none => .nilmp
  | .nilFunc => .nilfn
  | _ => .any

def ofV : Value → DV
  | .agg cs => .agg (cs.toList.map ofS)
  | v => ofS v

def okS (v : Value) : Bool := v.oneCell'
def okV : Value → Bool
  | .agg cs => cs.all okS
  | v => okS v

def stO : Operand → O
  | .tmp t => .t t
  | .const v => .c (ofV v)
  | .func f => .c (.fn f [] [])
  | .global _ => .c .any

def okO : Operand → Bool
  | .const v => okV v
  | _ => true

def stCall (c : Call) : SOp :=
  match c.callee, c.args.toList, c.argTypes.toList with
  | .value f, az, _ => .call (stO f) (az.map stO)
  | .builtin .len, [x], [t] => .len t (stO x)
  | .builtin .cap, [x], [t] => .cap t (stO x)
  | .builtin .append, [x, y], [t, u] => .app t u (stO x) (stO y)
  | .builtin .copy, [x, y], [t, u] => .copy t u (stO x) (stO y)
  | .builtin .clear, [x], [t] => .clear t (stO x)
  | .builtin .max, [x, y], _ => .max (stO x) (stO y)
  | .builtin .min, [x, y], _ => .min (stO x) (stO y)
  | _, _, _ => .bad

def stOp : Op → SOp
  | .move x | .assign x => .mv (stO x)
  | .pick c a b => .pick (stO c) (stO a) (stO b)
  | .alloc t => .alloc t
  | .box t x => .box t (stO x)
  | .build t ps => .build t (ps.toList.map fun p => (p.1, stO p.2))
  | .buildSlice t n ps => .bsl t n (ps.toList.map fun p => (p.1, stO p.2))
  | .load t a => .load t (stO a)
  | .store t a x => .store t (stO a) (stO x)
  | .nilCheck x => .nilck (stO x)
  | .binOp op t x y _ => .bin op t (stO x) (stO y)
  | .unOp op _ x => .un op (stO x)
  | .convert s d x => .conv s d (stO x)
  | .makeFunc (.func f) a c => .mkfn f (a.toList.map stO) (c.toList.map stO)
  | .makeMap t none => .mkmap t
  | .makeSlice t l c => .mksl t (stO l) (stO c)
  | .slice t x lo hi mx => .slice t (stO x) (lo.map stO) (hi.map stO) (mx.map stO)
  | .fieldAddr t x f => .faddr t (stO x) f
  | .indexAddr t x i => .iaddr t (stO x) (stO i)
  | .lookup t x i ok => .lkp t (stO x) (stO i) ok
  | .mapUpdate t m k v | .insert t m k v => .mupd t (stO m) (stO k) (stO v)
  | .extract x i => .ext (stO x) i
  | .call c => stCall c
  | _ => .bad

/-- All operands that are constants may be told as deep values. -/
def okOp (o : Op) : Bool := o.operands.all okO

def stOper (ops : Array Oper) (o : Oper) : Option SO :=
  if okOp o.op then
    match o.guard with
    | none => some ⟨o.dst, stOp o.op, none⟩
    | some (j, b) => match (ops[j]?).bind (·.dst) with
      | some t => some ⟨o.dst, stOp o.op, some (t, b)⟩
      | none => none
  else none

def afterOf (o : Oper) : List Nat := (o.after.toList.filter fun e => Region.binds .any e).map (·.on)

def strip : Code → SC
  | .skip => .skip
  | .region _ ops draw => match ops.toList.mapM (stOper ops) with
    | some l => if draw then .dr l (ops.toList.map afterOf) else .rg l
    | none => .bad
  | .seq a b => .seq (strip a) (strip b)
  | .cond c a b => if okO c then .cond (stO c) (strip a) (strip b) else .bad
  | .block id a => .block id (strip a)
  | .loop a => .loop (strip a)
  | .exit id => .exit id
  | .ret => .ret
  | _ => .bad

-- what the types come to -------------------------------------------------------------------------------------------------------------

inductive TK where
  | bool
  | int (k : IntKind)
  | slice (e : Nat)
  | arr (n e : Nat) (flat : Option (List Bool))
  | struct (fs : List (Nat × Nat)) (flat : Option (List Bool))
  | map (k e : Nat)
  | scalar
  | other
  deriving Inhabited

structure TI where
  k : TK
  size : Nat
  bytes : Nat
  wf : Bool
  zero : DV
  deriving Inhabited

def TK.isAgg : TK → Option Bool
  | .arr .. | .struct .. => some true
  | .other => none
  | _ => some false

def scalarT (P : Program) (t : TypeId) : Bool :=
  (match P.underlying t with | some (.int _) | some .bool => true | _ => false) && P.cellsOf t == 1

def isBoolT (P : Program) (t : TypeId) : Bool := match P.underlying t with | some .bool => true | _ => false

def seqFrom : Nat → List (Nat × Nat) → Bool
  | _, [] => true
  | i, (o, s) :: r => o == i && s == 1 && seqFrom (i + 1) r

def tkOf (P : Program) (t : TypeId) : TypeDesc → TK
  | .bool => .bool
  | .int k => .int k
  | .slice e => .slice e
  | .array n e => .arr n e (if scalarT P e && !P.eqGuardType P.depth t then some (List.replicate n (isBoolT P e)) else none)
  | .struct fs =>
    let l := fs.toList.map fun f => (f.offset, P.cellsOf f.type)
    if fs.all (fun f => (P.info? f.type).isSome) then .struct l (if fs.all (fun f => scalarT P f.type && f.name != "_") && seqFrom 0 l && !P.stoodInHeld t && !P.eqGuardType P.depth t then some (fs.toList.map fun f => isBoolT P f.type) else none) else .other
  | .map k e => .map k e
  | .pointer _ | .func .. | .float _ | .string | .interface _ | .chan .. | .unsafePointer => .scalar
  | _ => .other

/-- What may be the value of a cell. -/
def cellD : DV → Bool
  | .agg _ | .tup _ => false
  | _ => true

def cellsOf : DV → List DV
  | .agg cs => cs
  | d => [d]

/-- The zero value fills the type, which has cells. -/
def wfZ (i : TypeInfo) (z : Value) : Bool := ((cellsOf (ofV z)).length == i.size) && (cellsOf (ofV z)).all cellD && decide (0 < i.size) && decide (0 < i.bytes)

def tiOf (P : Program) (t : TypeId) : Option TI :=
  match P.info? t, P.underlying t with
  | some i, some u => match i.zero with
    | some z => if okV z then some { k := tkOf P t u, size := i.size, bytes := i.bytes, wf := wfZ i z, zero := ofV z } else none
    | none => none
  | _, _ => none

-- states -----------------------------------------------------------------------------------------------------------------------------

/-- The first entry of a key. -/
def lkO {α : Type} : List (Nat × Option α) → Nat → Option α
  | [], _ => none
  | (k, v) :: r, t => if k = t then v else lkO r t

theorem lkO_cons {α : Type} (k : Nat) (v : Option α) (r : List (Nat × Option α)) (t : Nat) : lkO ((k, v) :: r) t = if k = t then v else lkO r t := rfl

structure St where
  T : List (Nat × Option DV)
  H : List (Nat × Option Blk)
  nx : Nat
  deriving Inhabited

def St.get (S : St) (t : Nat) : Option DV := lkO S.T t
def St.blk (S : St) (n : Nat) : Option Blk := lkO S.H n
def St.ev (S : St) : O → Option DV
  | .t n => S.get n
  | .c d => some d
def St.set (S : St) (dst : Option Nat) (d : Option DV) : St :=
  match dst with
  | some t => { S with T := (t, d) :: S.T }
  | none => S

/-- What an operation comes to: its value, and which own blocks turn. -/
structure Eff where
  d : Option DV
  U : List (Nat × Option Blk)

abbrev OD := Option DV
abbrev TE := Nat → Option TI

-- values -----------------------------------------------------------------------------------------------------------------------------

def pickA : OD → OD → OD → OD
  | some (.bool true), a, _ => a
  | some (.bool false), _, b => b
  | _, _, _ => none

def scEq : DV → DV → Option Bool
  | .int k a, .int k' b => if k = k' then some (decide (a = b)) else none
  | .bool a, .bool b => some (decide (a = b))
  | _, _ => none

def lsEq : List DV → List DV → Option Bool
  | [], [] => some true
  | x :: xs, y :: ys => match scEq x y, lsEq xs ys with
    | some a, some b => some (a && b)
    | _, _ => none
  | _, _ => none

def intA (op : BinOp) (k : IntKind) (x y : Int) : OD :=
  match op with
  | .add => some (.int k (k.wrap (x + y)))
  | .sub => some (.int k (k.wrap (x - y)))
  | .mul => some (.int k (k.wrap (x * y)))
  | .quo => if y = 0 then none else some (.int k (k.wrap (x.tdiv y)))
  | .rem => if y = 0 then none else some (.int k (x.tmod y))
  | .and => some (.int k (k.wrap (BitVec.ofInt k.bits x &&& BitVec.ofInt k.bits y).toNat))
  | .or => some (.int k (k.wrap (BitVec.ofInt k.bits x ||| BitVec.ofInt k.bits y).toNat))
  | .xor => some (.int k (k.wrap (BitVec.ofInt k.bits x ^^^ BitVec.ofInt k.bits y).toNat))
  | .andNot => some (.int k (k.wrap (BitVec.ofInt k.bits x &&& ~~~BitVec.ofInt k.bits y).toNat))
  | .eql => some (.bool (decide (x = y)))
  | .neq => some (.bool (!decide (x = y)))
  | .lss => some (.bool (decide (x < y)))
  | .leq => some (.bool (decide (x ≤ y)))
  | .gtr => some (.bool (decide (y < x)))
  | .geq => some (.bool (decide (y ≤ x)))
  | _ => none

def shA (op : BinOp) (k : IntKind) (x y : Int) : OD :=
  if y < 0 then none else
  match op with
  | .shl => some (.int k (k.wrap (x * 2 ^ (Min.min y.toNat k.bits))))
  | .shr => some (.int k (x.fdiv (2 ^ (Min.min y.toNat k.bits))))
  | _ => none

/-- Of a type of plain cells: which are bools. -/
def flatT : Option TI → Option (List Bool)
  | some ⟨.arr _ _ fl, _, _, _, _⟩ => fl
  | some ⟨.struct _ fl, _, _, _, _⟩ => fl
  | _ => none

def kindD (k : Bool) : DV → Bool
  | .int _ _ => !k
  | .bool _ => k
  | _ => false

def kindsOk : List Bool → List DV → Bool
  | [], [] => true
  | k :: ks, d :: ds => kindD k d && kindsOk ks ds
  | _, _ => false

def eqA (ti : Option TI) (op : BinOp) (x y : List DV) : OD :=
  match flatT ti with
  | some ks => if kindsOk ks x && kindsOk ks y then
      match op, lsEq x y with
      | .eql, some b => some (.bool b)
      | .neq, some b => some (.bool (!b))
      | _, _ => none
    else none
  | none => none

def binA (te : TE) (op : BinOp) (t : Nat) : OD → OD → OD
  | some (.int k x), some (.int k' y) =>
    match op with
    | .shl | .shr => shA op k x y
    | op => if k = k' then intA op k x y else none
  | some (.bool x), some (.bool y) =>
    match te t, op with
    | some ⟨.bool, _, _, _, _⟩, .eql => some (.bool (decide (x = y)))
    | some ⟨.bool, _, _, _, _⟩, .neq => some (.bool (!decide (x = y)))
    | _, _ => none
  | some (.agg x), some (.agg y) => eqA (te t) op x y
  | some .nilsl, some .nilsl =>
    match te t, op with
    | some ⟨.slice _, _, _, _, _⟩, .eql => some (.bool true)
    | some ⟨.slice _, _, _, _, _⟩, .neq => some (.bool false)
    | _, _ => none
  | _, _ => none

def unA : UnOp → OD → OD
  | .not, some (.bool b) => some (.bool (!b))
  | .neg, some (.int k n) => some (.int k (k.wrap (0 - n)))
  | .xor, some (.int k n) => intA .xor k (if k.signed then -1 else k.max) n
  | _, _ => none

def convA (s d : Option TI) : OD → OD
  | some (.int _ n) => match s, d with
    | some ⟨.int _, _, _, _, _⟩, some ⟨.int k, _, _, _, _⟩ => some (.int k (k.wrap n))
    | _, _ => none
  | _ => none

def extA (i : Nat) : OD → OD
  | some (.tup cs) => cs[i]?
  | _ => none

def faddrA (ti : Option TI) (f : Nat) : OD → OD
  | some (.ptr b r c) => match ti with
    | some ⟨.struct fs _, _, _, _, _⟩ => match fs[f]? with
      | some (o, s) => if s = 0 then none else some (.ptr b r (c + o))
      | none => none
    | _ => none
  | some (.fp cs) => match ti with
    | some ⟨.struct fs _, _, _, _, _⟩ => match fs[f]? with
      | some (o, s) => if s = 0 then none else some (.fp (cs.drop o))
      | none => none
    | _ => none
  | _ => none

/-- The size of the elements of a slice type. -/
def elSize (te : TE) (t : Nat) : Option Nat :=
  match te t with
  | some ⟨.slice e, _, _, _, _⟩ => (te e).map (·.size)
  | _ => none
def elTI (te : TE) (t : Nat) : Option TI :=
  match te t with
  | some ⟨.slice e, _, _, _, _⟩ => te e
  | _ => none

def iaddrA (te : TE) (t : Nat) : OD → OD → OD
  | some (.sl k b s n), some (.int _ j) =>
    if elSize te t = some k then (if 0 ≤ j ∧ j < n then some (.ptr b (s + j.toNat) 0) else none) else none
  | some (.fz k rows), some (.int _ j) =>
    if elSize te t = some k then (if 0 ≤ j ∧ j < rows.length then some (.fp (rows.getD j.toNat [])) else none) else none
  | some (.ptr b r c), some (.int _ j) =>
    match te t with
    | some ⟨.arr n e _, _, _, _, _⟩ => match te e with
      | some ei => if 0 ≤ j ∧ j < n then some (.ptr b r (c + j.toNat * ei.size)) else none
      | none => none
    | _ => none
  | some (.fp cs), some (.int _ j) =>
    match te t with
    | some ⟨.arr n e _, _, _, _, _⟩ => match te e with
      | some ei => if 0 ≤ j ∧ j < n then some (.fp (cs.drop (j.toNat * ei.size))) else none
      | none => none
    | _ => none
  | _, _ => none

/-- A value of some cells: as an aggregate, or as its only cell. -/
def packA (ti : Option TI) (cs : List DV) : OD :=
  match ti with
  | some i => match i.k.isAgg with
    | some true => if i.size ≤ cs.length then some (.agg (cs.take i.size)) else none
    | some false => cs[0]?
    | none => none
  | none => none

def rowOf (H : Nat → Option Blk) (b r : Nat) : Option (List DV) :=
  match H b with
  | some (.rows _ rs) => rs[r]?
  | _ => none

def loadA (ti : Option TI) (H : Nat → Option Blk) : OD → OD
  | some (.fp cs) => packA ti cs
  | some (.ptr b r c) => match rowOf H b r with
    | some row => packA ti (row.drop c)
    | none => none
  | _ => none

def putCells : List DV → Nat → List DV → List DV
  | row, _, [] => row
  | row, c, x :: xs => putCells (row.set c x) (c + 1) xs

def storeA (ti : Option TI) (H : Nat → Option Blk) : OD → OD → Option Eff
  | some (.ptr b r c), some x =>
    match H b, ti with
    | some (.rows k rs), some i =>
      match rs[r]? with
      | some row =>
        if (cellsOf x).length = i.size ∧ c + i.size ≤ k ∧ (cellsOf x).all cellD = true then some ⟨none, [(b, some (.rows k (rs.set r (putCells row c (cellsOf x)))))]⟩ else none
      | none => none
    | _, _ => none
  | _, _ => none

def allocA (ti : Option TI) (nb : Nat) : Option Eff :=
  match ti with
  | some i => if i.wf then some ⟨some (.ptr nb 0 0), [(nb, some (.rows i.size [cellsOf i.zero]))]⟩ else none
  | none => none

def boxA (nb : Nat) : OD → Option Eff
  | some x => if (cellsOf x).all cellD = true then some ⟨some (.ptr nb 0 0), [(nb, some (.rows (cellsOf x).length [cellsOf x]))]⟩ else none
  | none => none

/-- Parts laid into a row of cells: place, size of each. -/
def fillA (place : Nat → Option (Nat × Nat)) : List DV → List (Nat × OD) → Option (List DV)
  | cs, [] => some cs
  | cs, (i, some x) :: r => match place i with
    | some (o, s) => if (cellsOf x).length = s ∧ o + s ≤ cs.length then fillA place (putCells cs o (cellsOf x)) r else none
    | none => none
  | _, (_, none) :: _ => none

def buildA (te : TE) (t : Nat) (ps : List (Nat × OD)) : OD :=
  match te t with
  | some ⟨.struct fs _, _, _, _, z⟩ => (fillA (fun i => fs[i]?) (cellsOf z) ps).map .agg
  | some ⟨.arr _ e _, _, _, _, z⟩ => match te e with
    | some ei => (fillA (fun i => some (i * ei.size, ei.size)) (cellsOf z) ps).map .agg
    | none => none
  | _ => none

def setRows : List (List DV) → List (Nat × OD) → Option (List (List DV))
  | rs, [] => some rs
  | rs, (i, some x) :: r => if (rs.getD i []).length = (cellsOf x).length ∧ i < rs.length ∧ (cellsOf x).all cellD = true then setRows (rs.set i (cellsOf x)) r else none
  | _, (_, none) :: _ => none

def bslA (te : TE) (t n nb : Nat) (ps : List (Nat × OD)) : Option Eff :=
  match elTI te t with
  | some ei =>
    if ei.wf = true ∧ n * ei.size ≤ 16777216 then
      match setRows (List.replicate n (cellsOf ei.zero)) ps with
      | some rs => some ⟨some (.sl ei.size nb 0 n), [(nb, some (.rows ei.size rs))]⟩
      | none => none
    else none
  | none => none

def mkslA (te : TE) (t nb : Nat) : OD → OD → Option Eff
  | some (.int .i64 l), some (.int .i64 c) =>
    match elTI te t with
    | some ei =>
      if l = c ∧ ei.wf = true then
        (if 0 ≤ l ∧ l * ei.bytes ≤ 281474976710656 then
          some ⟨some (.sl ei.size nb 0 l.toNat), [(nb, some (.rows ei.size (List.replicate l.toNat (cellsOf ei.zero))))]⟩ else none)
      else none
    | none => none
  | _, _ => none

def bnd (x : Option OD) (df : Nat) : Option Nat :=
  match x with
  | none => some df
  | some (some (.int _ j)) => if 0 ≤ j then some j.toNat else none
  | some _ => none

def sliceA (te : TE) (t : Nat) (x : OD) (lo hi mx : Option OD) : OD :=
  match x with
  | some (.sl k b s n) =>
    if elSize te t = some k then
      match bnd lo 0, bnd hi n, bnd mx n with
      | some l, some h, some m => if l ≤ h ∧ h ≤ m ∧ m ≤ n ∧ (mx.isSome = true → hi.isSome = true) then some (.sl k b (s + l) (h - l)) else none
      | _, _, _ => none
    else none
  | some (.fz k rows) =>
    if elSize te t = some k then
      match bnd lo 0, bnd hi rows.length, bnd mx rows.length with
      | some l, some h, some m => if l ≤ h ∧ h ≤ m ∧ m ≤ rows.length ∧ (mx.isSome = true → hi.isSome = true) then some (.fz k ((rows.take h).drop l)) else none
      | _, _, _ => none
    else none
  | some .nilsl =>
    if (elSize te t).isSome then
      match bnd lo 0, bnd hi 0, bnd mx 0 with
      | some l, some h, some m => if l = 0 ∧ h = 0 ∧ m = 0 ∧ (mx.isSome = true → hi.isSome = true) then some .nilsl else none
      | _, _, _ => none
    else none
  | _ => none

def dvEq (ti : Option TI) : DV → DV → Option Bool
  | .agg a, .agg b => match flatT ti with
    | some ks => if kindsOk ks a && kindsOk ks b then lsEq a b else none
    | none => none
  | .int k a, .int k' b => match ti with
    | some ⟨.int _, _, _, _, _⟩ => if k = k' then some (decide (a = b)) else none
    | _ => none
  | _, _ => none

def findK (ti : Option TI) (key : DV) : List (DV × DV) → Option (Option DV)
  | [] => some none
  | (k, v) :: r => match dvEq ti key k with
    | some b => bif b then some (some v) else findK ti key r
    | none => none

def found (zero : DV) : Option DV → DV
  | some v => v
  | none => zero

def lkpA (te : TE) (H : Nat → Option Blk) (t : Nat) (ok : Bool) : OD → OD → OD
  | some (.mp b), some key =>
    match H b, te t with
    | some (.map es), some ⟨.map kt et, _, _, _, _⟩ =>
      match te et with
      | some ei => if (dvEq (te kt) key key).isSome then
          match findK (te kt) key es with
          | some r => some (bif ok then .tup [found ei.zero r, .bool r.isSome] else found ei.zero r)
          | none => none
        else none
      | none => none
    | _, _ => none
  | _, _ => none

def updK (ti : Option TI) (key v : DV) : List (DV × DV) → Option (List (DV × DV))
  | [] => some [(key, v)]
  | (k, u) :: r => match dvEq ti key k with
    | some b => bif b then some ((key, v) :: r) else (updK ti key v r).map ((k, u) :: ·)
    | none => none

def mupdA (te : TE) (H : Nat → Option Blk) (t : Nat) : OD → OD → OD → Option Eff
  | some (.mp b), some key, some v =>
    match H b, te t with
    | some (.map es), some ⟨.map kt _, _, _, _, _⟩ =>
      if (dvEq (te kt) key key).isSome then
        match updK (te kt) key v es with
        | some es' => some ⟨none, [(b, some (.map es'))]⟩
        | none => none
      else none
    | _, _ => none
  | _, _, _ => none

def lenA (te : TE) (H : Nat → Option Blk) (t : Nat) : OD → OD
  | some (.sl _ _ _ n) => match te t with
    | some ⟨.slice _, _, _, _, _⟩ => some (.int .i64 n)
    | _ => none
  | some (.fz _ rows) => match te t with
    | some ⟨.slice _, _, _, _, _⟩ => some (.int .i64 rows.length)
    | _ => none
  | some .nilsl => match te t with
    | some ⟨.slice _, _, _, _, _⟩ => some (.int .i64 0)
    | _ => none
  | some (.mp b) => match H b, te t with
    | some (.map es), some ⟨.map _ _, _, _, _, _⟩ => some (.int .i64 es.length)
    | _, _ => none
  | _ => none

/-- The rows of a slice's value. -/
def rowsOf (H : Nat → Option Blk) (k : Nat) : OD → Option (List (List DV))
  | some (.sl k' b s n) => match H b with
    | some (.rows k'' rs) => if k' = k ∧ k'' = k ∧ s + n ≤ rs.length then some ((rs.drop s).take n) else none
    | _ => none
  | some (.fz k' rows) => if k' = k then some rows else none
  | some .nilsl => some []
  | _ => none

/-- The room of a slice's value, where it is told: of none. -/
def capA (te : TE) (t : Nat) : OD → OD
  | some .nilsl => match te t with
    | some ⟨.slice _, _, _, _, _⟩ => some (.int .i64 0)
    | _ => none
  | _ => none

/-- Go's append of so many zeros, to none. -/
def growA (ei : TI) (nb : Nat) : OD → OD → Option Eff
  | some .nilsl, some (.int .i64 m) =>
    if ei.wf = true ∧ 0 ≤ m then
      (if m * ei.bytes ≤ 140737488355328 then some ⟨some (.sl ei.size nb 0 m.toNat), [(nb, some (.rows ei.size (List.replicate m.toNat (cellsOf ei.zero))))]⟩ else none)
    else none
  | _, _ => none

def appA (te : TE) (H : Nat → Option Blk) (t u nb : Nat) (x y : OD) : Option Eff :=
  match elTI te t with
  | some ei =>
    match te u with
    | some ⟨.int _, _, _, _, _⟩ => growA ei nb x y
    | some ⟨.slice _, _, _, _, _⟩ =>
      match rowsOf H ei.size y with
      | some new =>
        match x with
        | some (.sl k b s n) => match H b with
          | some (.rows _ rs) =>
            if k = ei.size ∧ s + n ≤ rs.length ∧ ei.wf = true then
              (if ((n : Int) + new.length) * ei.bytes ≤ 140737488355328 then some ⟨some (.sl k nb 0 (n + new.length)), [(b, none), (nb, some (.rows k ((rs.drop s).take n ++ new)))]⟩ else none)
            else none
          | _ => none
        | some .nilsl =>
          if ei.wf = true then
            (if ((new.length : Int)) * ei.bytes ≤ 140737488355328 then some ⟨some (.sl ei.size nb 0 new.length), [(nb, some (.rows ei.size new))]⟩ else none)
          else none
        | _ => none
      | none => none
    | _ => none
  | none => none

def sizeU (te : TE) (u : Nat) : Bool :=
  match te u with
  | some ⟨.slice _, _, _, _, _⟩ => true
  | _ => false

/-- Go's copy. -/
def over (rs : List (List DV)) (s : Nat) (new : List (List DV)) : List (List DV) := rs.take s ++ new ++ rs.drop (s + new.length)

def copyA (te : TE) (H : Nat → Option Blk) (t u : Nat) (x y : OD) : Option Eff :=
  match elTI te t with
  | some ei =>
    if sizeU te u then
      match x, rowsOf H ei.size y with
      | some (.sl k b s n), some new => match H b with
        | some (.rows _ rs) =>
          if k = ei.size ∧ s + n ≤ rs.length ∧ ei.wf = true then
            some ⟨some (.int .i64 (Min.min new.length n : Nat)), [(b, some (.rows k (over rs s (new.take n))))]⟩
          else none
        | _ => none
      | _, _ => none
    else none
  | none => none

def clearA (te : TE) (H : Nat → Option Blk) (t : Nat) (x : OD) : Option Eff :=
  match elTI te t with
  | some ei =>
    match x with
    | some (.sl k b s n) => match H b with
      | some (.rows _ rs) =>
        if k = ei.size ∧ s + n ≤ rs.length ∧ ei.wf = true then
          some ⟨some (.tup []), [(b, some (.rows k (over rs s (List.replicate n (cellsOf ei.zero)))))]⟩
        else none
      | _ => none
    | _ => none
  | none => none

def maxA : OD → OD → OD
  | some (.int k x), some (.int _ y) => some (.int k (if y > x then y else x))
  | _, _ => none
def minA : OD → OD → OD
  | some (.int k x), some (.int _ y) => some (.int k (if y < x then y else x))
  | _, _ => none

def nilckA : OD → OD
  | some (.ptr b r c) => some (.ptr b r c)
  | some (.fp cs) => some (.fp cs)
  | some (.fn f a c) => some (.fn f a c)
  | _ => none

/-- All are told. -/
def allD : List OD → Option (List DV)
  | [] => some []
  | some d :: r => (allD r).map (d :: ·)
  | none :: _ => none

def valE : OD → Option Eff
  | some d => some ⟨some d, []⟩
  | none => none

/-- What an operation that calls nothing comes to; nb: the name of a block that it makes. -/
def actA (te : TE) (nb : Nat) (e : O → OD) (H : Nat → Option Blk) : SOp → Option Eff
  | .mv x => some ⟨e x, []⟩
  | .pick c a b => valE (pickA (e c) (e a) (e b))
  | .alloc t => allocA (te t) nb
  | .box _ x => boxA nb (e x)
  | .build t ps => valE (buildA te t (ps.map fun p => (p.1, e p.2)))
  | .bsl t n ps => bslA te t n nb (ps.map fun p => (p.1, e p.2))
  | .load t a => valE (loadA (te t) H (e a))
  | .store t a x => storeA (te t) H (e a) (e x)
  | .nilck x => valE (nilckA (e x))
  | .bin op t x y => valE (binA te op t (e x) (e y))
  | .un op x => valE (unA op (e x))
  | .conv s d x => valE (convA (te s) (te d) (e x))
  | .mkfn f a c => match allD (a.map e), allD (c.map e) with
    | some a', some c' => some ⟨some (.fn f a' c'), []⟩
    | _, _ => none
  | .mkmap _ => some ⟨some (.mp nb), [(nb, some (.map []))]⟩
  | .mksl t l c => mkslA te t nb (e l) (e c)
  | .slice t x lo hi mx => valE (sliceA te t (e x) (lo.map e) (hi.map e) (mx.map e))
  | .faddr t x f => valE (faddrA (te t) f (e x))
  | .iaddr t x i => valE (iaddrA te t (e x) (e i))
  | .lkp t x i ok => valE (lkpA te H t ok (e x) (e i))
  | .mupd t m k v => mupdA te H t (e m) (e k) (e v)
  | .ext x i => valE (extA i (e x))
  | .len t x => valE (lenA te H t (e x))
  | .app t u x y => appA te H t u nb (e x) (e y)
  | .copy t u x y => copyA te H t u (e x) (e y)
  | .clear t x => clearA te H t (e x)
  | .max x y => valE (maxA (e x) (e y))
  | .min x y => valE (minA (e x) (e y))
  | .cap t x => valE (capA te t (e x))
  | .call _ _ | .bad => none

end Go.Fv
/- ABSTRACT VALUES AND STATES (3): runs of the machine's small steps over a world: loads, stores, new blocks; and what they do to the own blocks. -/
namespace Go.Fv

theorem wrap_i64 {n : Int} (h1 : -9223372036854775808 ≤ n) (h2 : n ≤ 9223372036854775807) : IntKind.i64.wrap n = n := by
  have : IntKind.i64.wrap n = if n % 18446744073709551616 ≥ 9223372036854775808 then n % 18446744073709551616 - 18446744073709551616 else n % 18446744073709551616 := by
    simp [IntKind.wrap, IntKind.bits, IntKind.signed]
  rw [this]
  split <;> omega
theorem wrap_u64 {n : Int} (h1 : 0 ≤ n) (h2 : n ≤ 18446744073709551615) : IntKind.u64.wrap n = n := by
  have : IntKind.u64.wrap n = n % 18446744073709551616 := by simp [IntKind.wrap, IntKind.bits, IntKind.signed]
  rw [this]; omega
section
variable {P : Program} {w : World}

theorem run_under {t : TypeId} {u : TypeDesc} (h : P.underlying t = some u) : (underlying t).run P w = .ok u w := by
  simp [underlying, h]
theorem run_info {t : TypeId} {i : TypeInfo} (h : P.info? t = some i) : (typeInfo t).run P w = .ok i w := by
  simp [typeInfo, h]
theorem run_size {t : TypeId} {i : TypeInfo} (h : P.info? t = some i) : (sizeOf t).run P w = .ok i.size w := by
  simp [sizeOf, run_info h]
theorem run_zero {t : TypeId} {i : TypeInfo} {z : Value} (h : P.info? t = some i) (hz : i.zero = some z) : (zeroValue t).run P w = .ok z w := by
  simp [zeroValue, run_info h, hz]

theorem addr_add (b o n : Nat) : (adr b o).add n = adr b (o + n) := by
  unfold Addr.add adr
  by_cases h : n = 0
  · simp [h]
  · simp [h]

theorem run_load_at {a : Addr} {v : Value} (h : w.cell? a = some v) : (load a).run P w = .ok v w := by
  simp [load, Sem.run, h]

theorem run_loadCellsFrom (b o : Nat) (vals : Nat → Value) : ∀ (n i : Nat) (acc : Array Value),
    (∀ j, j < n → w.cell? (adr b (o + (i + j))) = some (vals (i + j))) →
    (loadCellsFrom (adr b o) i n acc).run P w = .ok (acc ++ ((List.range' i n).map vals).toArray) w := by
  intro n
  induction n with
  | zero => intro i acc _; simp [loadCellsFrom]
  | succ n ih =>
    intro i acc h
    have h0 := h 0 (by omega)
    simp only [Nat.add_zero] at h0
    simp only [loadCellsFrom, Sem.run_bind, addr_add, run_load_at h0, Result.andThen_ok]
    rw [ih (i + 1) (acc.push (vals i)) (fun j hj => by have := h (j + 1) (by omega); rw [show i + 1 + j = i + (j + 1) from by omega]; exact this)]
    simp [List.range'_succ]

theorem run_loadCells (b o n : Nat) (vals : Nat → Value) (h : ∀ j, j < n → w.cell? (adr b (o + j)) = some (vals j)) :
    (loadCells (adr b o) n).run P w = .ok ((List.range n).map vals).toArray w := by
  unfold loadCells
  rw [run_loadCellsFrom b o vals n 0 #[] (fun j hj => by simpa using h j hj)]
  simp [List.range_eq_range']

/-- A row of values laid into an array. -/
def putArr (cs : Array Value) (o : Nat) : List Value → Array Value
  | [] => cs
  | v :: vs => putArr (cs.setIfInBounds o v) (o + 1) vs

@[simp] theorem size_putArr : ∀ (vs : List Value) (cs : Array Value) (o : Nat), (putArr cs o vs).size = cs.size := by
  intro vs
  induction vs with
  | nil => intro cs o; rfl
  | cons v vs ih => intro cs o; simp [putArr, ih]

theorem putArr_get : ∀ (vs : List Value) (cs : Array Value) (o i : Nat), o + vs.length ≤ cs.size →
    (putArr cs o vs)[i]? = if o ≤ i ∧ i < o + vs.length then vs[i - o]? else cs[i]? := by
  intro vs
  induction vs with
  | nil => intro cs o i _; simp [putArr]; omega
  | cons v vs ih =>
    intro cs o i h
    simp only [List.length_cons] at h
    simp only [putArr]
    rw [ih _ _ _ (by simp; omega)]
    by_cases h1 : o = i
    · subst h1
      rw [if_neg (by omega), if_pos (by simp)]
      have : o < cs.size := by omega
      simp [this]
    · by_cases h2 : o + 1 ≤ i ∧ i < o + 1 + vs.length
      · rw [if_pos h2, if_pos (by simp; omega)]
        obtain ⟨k, rfl⟩ : ∃ k, i = o + 1 + k := ⟨i - (o + 1), by omega⟩
        rw [show o + 1 + k - (o + 1) = k from by omega, show o + 1 + k - o = k + 1 from by omega]
        simp
      · rw [if_neg h2, if_neg (by simp; omega), Array.getElem?_setIfInBounds_ne h1]

/-- The world with another object at a block. -/
def setB (w : World) (b : Nat) (o : Obj) : World := { w with heap := w.heap.setIfInBounds b o }

theorem setB_same {b : Nat} {o : Obj} (h : b < w.heap.size) : (setB w b o).heap[b]? = some o := by
  simp [setB, h]
theorem setB_ne {b c : Nat} {o : Obj} (h : b ≠ c) : (setB w b o).heap[c]? = w.heap[c]? := by
  simp [setB, Array.getElem?_setIfInBounds_ne h]
@[simp] theorem size_setB {b : Nat} {o : Obj} : (setB w b o).heap.size = w.heap.size := by simp [setB]

theorem lt_of_block {b : Nat} {o : Obj} (h : w.heap[b]? = some o) : b < w.heap.size := by
  rcases Nat.lt_or_ge b w.heap.size with h1 | h1
  · exact h1
  · simp [Array.getElem?_eq_none h1] at h

theorem cell?_block {b o : Nat} {cs : Array Value} {ty : TypeId} {fz : Nat × Nat} (h : w.heap[b]? = some (.cells cs ty fz)) : w.cell? (adr b o) = cs[o]? := by
  simp [World.cell?, h]

theorem setCell_block {b o : Nat} {v : Value} {cs : Array Value} {ty : TypeId} (h : w.heap[b]? = some (.cells cs ty (0, 0))) :
    w.setCell (adr b o) v = setB w b (.cells (cs.setIfInBounds o v) ty (0, 0)) := by
  have hb := lt_of_block h
  unfold World.setCell setB
  have : w.heap[b] = .cells cs ty (0, 0) := by simpa [Array.getElem?_eq_getElem hb] using h
  congr 1
  apply Array.ext_getElem?
  intro i
  by_cases hi : b = i
  · subst hi; simp [hb, Array.getElem_modify, this]
  · simp [Array.getElem?_setIfInBounds_ne hi, Array.getElem?_modify, hi]

theorem setB_setB {b : Nat} {o o' : Obj} : setB (setB w b o) b o' = setB w b o' := by
  simp [setB, Array.setIfInBounds_setIfInBounds]

theorem run_storeOne {b o : Nat} {v : Value} {cs : Array Value} {ty : TypeId} (h : w.heap[b]? = some (.cells cs ty (0, 0))) (ho : o < cs.size) (hv : v.oneCell' = true) :
    (store (adr b o) v).run P w = .ok () (setB w b (.cells (cs.setIfInBounds o v) ty (0, 0))) := by
  have hc : w.cell? (adr b o) = some cs[o] := by rw [cell?_block h]; simp [ho]
  have hf : w.frozen? (adr b o) = false := by simp [World.frozen?, h]
  rw [← setCell_block h]
  cases v <;> first | (simp [Value.oneCell'] at hv; done) | simp [store, Sem.run, hc, hf]

theorem run_storeCells (b o : Nat) (ty : TypeId) : ∀ (vs : List Value) (i : Nat) (w : World) (cs : Array Value), w.heap[b]? = some (.cells cs ty (0, 0)) →
    o + i + vs.length ≤ cs.size → (∀ v ∈ vs, v.oneCell' = true) →
    (storeCells (adr b o) vs i).run P w = .ok () (setB w b (.cells (putArr cs (o + i) vs) ty (0, 0))) := by
  intro vs
  induction vs with
  | nil =>
    intro i w cs h _ _
    have hb := lt_of_block h
    have hw : setB w b (.cells cs ty (0, 0)) = w := by
      unfold setB
      have : w.heap[b] = .cells cs ty (0, 0) := by simpa [Array.getElem?_eq_getElem hb] using h
      have e : w.heap.setIfInBounds b (.cells cs ty (0, 0)) = w.heap := by
        apply Array.ext_getElem?
        intro j
        by_cases hj : b = j
        · subst hj; simp [hb, this]
        · simp [Array.getElem?_setIfInBounds_ne hj]
      rw [e]
    simp [storeCells, putArr, hw]
  | cons v vs ih =>
    intro i w cs h hs hv
    simp only [List.length_cons] at hs
    have hb := lt_of_block h
    simp only [storeCells, Sem.run_bind, addr_add]
    rw [run_storeOne h (by omega) (hv v (by simp))]
    simp only [Result.andThen_ok]
    rw [ih (i + 1) _ (cs.setIfInBounds (o + i) v) (setB_same hb) (by simp; omega) (fun u hu => hv u (by simp [hu]))]
    simp [setB_setB, putArr, Nat.add_assoc]

/-- The world with a new object. -/
def newB (w : World) (o : Obj) : World := { w with heap := w.heap.push o }
theorem newB_old {o : Obj} {b : Nat} (h : b < w.heap.size) : (newB w o).heap[b]? = w.heap[b]? := by
  show (w.heap.push o)[b]? = _
  rw [Array.getElem?_push, if_neg (Nat.ne_of_lt h)]
theorem newB_new {o : Obj} : (newB w o).heap[w.heap.size]? = some o := by
  show (w.heap.push o)[w.heap.size]? = some o
  simp
@[simp] theorem size_newB {o : Obj} : (newB w o).heap.size = w.heap.size + 1 := by simp [newB]
theorem Ev_newB (o : Obj) : Ev w (newB w o) :=
  ⟨by simp, fun b cs _ h => ⟨cs, by rw [newB_old (lt_of_block h)]; exact h, rfl⟩⟩
theorem Ev_setB {b : Nat} {cs cs' : Array Value} {ty : TypeId} (h : w.heap[b]? = some (.cells cs ty (0, 0))) (hs : cs'.size = cs.size) :
    Ev w (setB w b (.cells cs' ty (0, 0))) where
  size := by simp
  cells c cs1 ty1 h1 := by
    by_cases hc : b = c
    · subst hc; rw [h] at h1; cases h1; exact ⟨cs', setB_same (lt_of_block h), hs⟩
    · exact ⟨cs1, by rw [setB_ne hc]; exact h1, rfl⟩
theorem Ev_setMap {b : Nat} {en en' : Array MapEntry} {ck ck' : Nat} (h : w.heap[b]? = some (.map en ck)) : Ev w (setB w b (.map en' ck')) where
  size := by simp
  cells c cs1 ty1 h1 := by
    by_cases hc : b = c
    · subst hc; rw [h] at h1; cases h1
    · exact ⟨cs1, by rw [setB_ne hc]; exact h1, rfl⟩

end

-- steps of the own blocks ------------------------------------------------------------------------------------------------------------

def updB (h : Nat → Option Blk) : List (Nat × Option Blk) → Nat → Option Blk
  | [] => h
  | (k, v) :: r => fun n => if k = n then v else updB h r n

theorem lkO_append (U H : List (Nat × Option Blk)) : lkO (U ++ H) = updB (lkO H) U := by
  induction U with
  | nil => rfl
  | cons x U ih => obtain ⟨k, v⟩ := x; funext n; simp only [List.cons_append, lkO, updB, ih]

def rhoAt (ρ : Nat → Place) (nb : Nat) (p : Place) : Nat → Place := fun n => if n = nb then p else ρ n

section
variable {w : World} {F : Nat → Prop} {ρ : Nat → Place} {N : Nat → Prop} {h : Nat → Option Blk}

/-- A name more, of which nothing is known. -/
def Nn (N : Nat → Prop) (nb : Nat) : Nat → Prop := fun n => N n ∨ n = nb

theorem HOk.mono_names {N' : Nat → Prop} (H : HOk w F ρ N h) (hN : ∀ n, N n → N' n) : HOk w F ρ N' h where
  ok n B hn := ⟨hN n (H.ok n B hn).1, (H.ok n B hn).2.mono (Ev.refl w) (fun _ ha => ⟨ha, rfl⟩) (fun m hm => ⟨hN m hm, rfl⟩) (H.ok n B hn).1 (fun _ => rfl)⟩
  inj := H.inj
  fr := H.fr

theorem Tr.idle (H : HOk w F ρ N h) (nb : Nat) : Tr w F ρ N h w F ρ (Nn N nb) h where
  H := H.mono_names fun _ hn => .inl hn
  ev := Ev.refl w
  same _ _ _ := rfl
  nm _ hn := ⟨.inl hn, rfl⟩
  own _ hb := .inr hb
  f1 _ ha := ha
  f2 _ ha := .inl ha
  os := rfl
  tape := rfl
  out := rfl

/-- A draw. -/
theorem Tr.draw (H : HOk w F ρ N h) : Tr w F ρ N h { w with drawn := w.drawn + 1 } F ρ N h where
  H := ⟨fun n B hn => ⟨(H.ok n B hn).1, (H.ok n B hn).2.mono (w := w) (w' := { w with drawn := w.drawn + 1 }) ⟨Nat.le_refl _, fun _ cs _ hc => ⟨cs, hc, rfl⟩⟩ (fun _ ha => ⟨ha, rfl⟩) (fun _ hm => ⟨hm, rfl⟩) (H.ok n B hn).1 (fun _ => rfl)⟩, H.inj, H.fr⟩
  ev := ⟨Nat.le_refl _, fun _ cs _ hc => ⟨cs, hc, rfl⟩⟩
  same _ _ _ := rfl
  nm _ hn := ⟨hn, rfl⟩
  own _ hb := .inr hb
  f1 _ ha := ha
  f2 _ ha := .inl ha
  os := rfl
  tape := rfl
  out := rfl

/-- A new own block. -/
theorem Tr.new (H : HOk w F ρ N h) {nb : Nat} (hnb : ¬ N nb) {o : Obj} {B : Blk} {k : Nat}
    (hB : BlkOk (newB w o) F (rhoAt ρ nb ⟨w.heap.size, 0, k, false⟩) (Nn N nb) nb B) :
    Tr w F ρ N h (newB w o) F (rhoAt ρ nb ⟨w.heap.size, 0, k, false⟩) (Nn N nb) (updB h [(nb, some B)]) := by
  have hρ : ∀ n, N n → rhoAt ρ nb ⟨w.heap.size, 0, k, false⟩ n = ρ n := fun n hn => by
    unfold rhoAt; rw [if_neg]; rintro rfl; exact hnb hn
  have hold : ∀ n C, updB h [(nb, some B)] n = some C → (n = nb ∧ C = B) ∨ (N n ∧ h n = some C) := by
    intro n C hn
    simp only [updB] at hn
    by_cases e : nb = n
    · rw [if_pos e] at hn; exact .inl ⟨e.symm, (Option.some.inj hn).symm⟩
    · rw [if_neg e] at hn; exact .inr ⟨(H.ok n C hn).1, hn⟩
  have hlt : ∀ n C, h n = some C → (ρ n).vir = false → (ρ n).blk < w.heap.size := by
    intro n C hn hv
    have := (H.ok n C hn).2
    cases C with
    | rows k rs =>
      obtain ⟨_, _, h1 | ⟨_, cs, ty, hc, _⟩⟩ := this
      · rw [hv] at h1; simp at h1
      · exact lt_of_block hc
    | map es => obtain ⟨_, en, ck, hc, _⟩ := this; exact lt_of_block hc
  have hme : rhoAt ρ nb ⟨w.heap.size, 0, k, false⟩ nb = ⟨w.heap.size, 0, k, false⟩ := by simp [rhoAt]
  refine ⟨⟨?_, ?_, ?_⟩, Ev_newB o, fun b hb _ => newB_old hb, fun n hn => ⟨.inl hn, hρ n hn⟩, ?_, fun a ha => ha, fun a ha => .inl ha, rfl, rfl, rfl⟩
  · intro n C hn
    rcases hold n C hn with ⟨rfl, rfl⟩ | ⟨h1, h2⟩
    · exact ⟨.inr rfl, hB⟩
    · refine ⟨.inl h1, (H.ok n C h2).2.mono (Ev_newB o) (fun a ha => ⟨ha, newB_old (H.fr a ha).1⟩) (fun m hm => ⟨.inl hm, hρ m hm⟩) h1 (fun hv => newB_old (hlt n C h2 hv))⟩
  · intro n m C D hn hm hne hvn hvm
    rcases hold n C hn with ⟨rfl, rfl⟩ | ⟨h1, h2⟩ <;> rcases hold m D hm with ⟨rfl, rfl⟩ | ⟨h3, h4⟩
    · exact absurd rfl hne
    · rw [hme, hρ m h3]; rw [hρ m h3] at hvm; have := hlt m D h4 hvm; simp only; omega
    · rw [hme, hρ n h1]; rw [hρ n h1] at hvn; have := hlt n C h2 hvn; simp only; omega
    · rw [hρ n h1, hρ m h3]; rw [hρ n h1] at hvn; rw [hρ m h3] at hvm; exact H.inj n m C D h2 h4 hne hvn hvm
  · intro a ha
    refine ⟨by have := (H.fr a ha).1; simp; omega, fun n C hn hv => ?_⟩
    rcases hold n C hn with ⟨rfl, rfl⟩ | ⟨h1, h2⟩
    · rw [hme]; have := (H.fr a ha).1; simp only; omega
    · rw [hρ n h1]; rw [hρ n h1] at hv; exact (H.fr a ha).2 n C h2 hv
  · rintro b ⟨n, C, hn, hv, hb⟩
    rcases hold n C hn with ⟨rfl, rfl⟩ | ⟨h1, h2⟩
    · rw [hme] at hb; simp only at hb; exact .inl (by omega)
    · rw [hρ n h1] at hv hb; exact .inr ⟨n, C, h2, hv, hb⟩

/-- An own block turns in place. -/
theorem Tr.put (H : HOk w F ρ N h) {b : Nat} {B B' : Blk} (nb : Nat) (hb : h b = some B) (hv : (ρ b).vir = false) {o : Obj}
    (hE : Ev w (setB w (ρ b).blk o)) (hB : BlkOk (setB w (ρ b).blk o) F ρ N b B') :
    Tr w F ρ N h (setB w (ρ b).blk o) F ρ (Nn N nb) (updB h [(b, some B')]) := by
  have hN := (H.ok b B hb).1
  have hFs : ∀ a, F a → (setB w (ρ b).blk o).heap[a]? = w.heap[a]? := fun a ha => setB_ne ((H.fr a ha).2 b B hb hv)
  have hold : ∀ n C, updB h [(b, some B')] n = some C → (n = b ∧ C = B') ∨ (n ≠ b ∧ h n = some C) := by
    intro n C hn
    simp only [updB] at hn
    by_cases e : b = n
    · rw [if_pos e] at hn; exact .inl ⟨e.symm, (Option.some.inj hn).symm⟩
    · rw [if_neg e] at hn; exact .inr ⟨fun x => e x.symm, hn⟩
  refine ⟨⟨?_, ?_, ?_⟩, hE, ?_, fun n hn => ⟨.inl hn, rfl⟩, ?_, fun a ha => ha, fun a ha => .inl ha, rfl, rfl, rfl⟩
  · intro n C hn
    rcases hold n C hn with ⟨rfl, rfl⟩ | ⟨h1, h2⟩
    · exact ⟨.inl hN, hB.mono (Ev.refl _) (fun a ha => ⟨ha, rfl⟩) (fun m hm => ⟨.inl hm, rfl⟩) hN (fun _ => rfl)⟩
    · refine ⟨.inl (H.ok n C h2).1, (H.ok n C h2).2.mono hE (fun a ha => ⟨ha, hFs a ha⟩) (fun m hm => ⟨.inl hm, rfl⟩) (H.ok n C h2).1 (fun hvn => setB_ne ?_)⟩
      exact fun e => H.inj n b C B h2 hb h1 hvn hv e.symm
  · intro n m C D hn hm hne hvn hvm
    rcases hold n C hn with ⟨rfl, rfl⟩ | ⟨h1, h2⟩ <;> rcases hold m D hm with ⟨rfl, rfl⟩ | ⟨h3, h4⟩
    · exact absurd rfl hne
    · exact H.inj _ m B D hb h4 hne hvn hvm
    · exact H.inj n _ C B h2 hb hne hvn hvm
    · exact H.inj n m C D h2 h4 hne hvn hvm
  · intro a ha
    refine ⟨by simpa using (H.fr a ha).1, fun n C hn hvn => ?_⟩
    rcases hold n C hn with ⟨rfl, rfl⟩ | ⟨_, h2⟩
    · exact (H.fr a ha).2 _ B hb hvn
    · exact (H.fr a ha).2 n C h2 hvn
  · intro c _ hO
    exact setB_ne fun e => hO ⟨b, B, hb, hv, e⟩
  · rintro c ⟨n, C, hn, hvn, hc⟩
    rcases hold n C hn with ⟨rfl, rfl⟩ | ⟨_, h2⟩
    · exact .inr ⟨_, B, hb, hvn, hc⟩
    · exact .inr ⟨n, C, h2, hvn, hc⟩

end
end Go.Fv
/- ABSTRACT VALUES AND STATES (4): the operations that turn no memory do what is told of them. -/
namespace Go.Fv

section
variable {w : World} {F : Nat → Prop} {ρ : Nat → Place} {N : Nat → Prop}

theorem RepV.int_inv {k : IntKind} {n : Int} {v : Value} (h : RepV w F ρ N (.int k n) v) : v = .int k n := by cases h; rfl
theorem RepV.bool_inv {b : Bool} {v : Value} (h : RepV w F ρ N (.bool b) v) : v = .bool b := by cases h; rfl
theorem RepV.nilsl_inv {v : Value} (h : RepV w F ρ N .nilsl v) : v = .slice none 0 0 := by cases h; rfl
theorem RepV.agg_inv {cs : List DV} {v : Value} (h : RepV w F ρ N (.agg cs) v) : ∃ vs, v = .agg vs ∧ cs.length = vs.size ∧
    ∀ (i : Nat) (d : DV) (x : Value), cs[i]? = some d → vs[i]? = some x → RepV w F ρ N d x := by
  cases h with | agg _ vs hl h => exact ⟨vs, rfl, hl, h⟩
theorem RepV.tup_inv {cs : List DV} {v : Value} (h : RepV w F ρ N (.tup cs) v) : ∃ vs, v = .tuple vs ∧ cs.length = vs.size ∧
    ∀ (i : Nat) (d : DV) (x : Value), cs[i]? = some d → vs[i]? = some x → RepV w F ρ N d x := by
  cases h with | tup _ vs hl h => exact ⟨vs, rfl, hl, h⟩
theorem RepV.ptr_inv {b r c : Nat} {v : Value} (h : RepV w F ρ N (.ptr b r c) v) :
    v = .pointer (some (adr (ρ b).blk ((ρ b).off + r * (ρ b).k + c))) ∧ N b ∧ (ρ b).vir = false := by
  cases h with | ptr _ _ _ hN hv => exact ⟨rfl, hN, hv⟩
theorem RepV.fp_inv {cs : List DV} {v : Value} (h : RepV w F ρ N (.fp cs) v) : ∃ (a o : Nat) (vals : Nat → Value), v = .pointer (some (adr a o)) ∧ F a ∧
    (∀ i, i < cs.length → w.cell? (adr a (o + i)) = some (vals i)) ∧ (∀ (i : Nat) (d : DV), cs[i]? = some d → RepV w F ρ N d (vals i)) := by
  cases h with | fp _ a o vals hF hc h => exact ⟨a, o, vals, rfl, hF, hc, h⟩
theorem RepV.mp_inv {b : Nat} {v : Value} (h : RepV w F ρ N (.mp b) v) : v = .map (some (ρ b).blk) ∧ N b := by
  cases h with | mp _ hN => exact ⟨rfl, hN⟩
theorem RepV.fn_inv {f : Nat} {a c : List DV} {v : Value} (h : RepV w F ρ N (.fn f a c) v) : ∃ fs cs, v = .func (.func f) fs cs ∧ a.length = fs.size ∧ c.length = cs.size ∧
    (∀ (i : Nat) (d : DV) (x : Value), a[i]? = some d → fs[i]? = some x → RepV w F ρ N d x) ∧
    (∀ (i : Nat) (d : DV) (x : Value), c[i]? = some d → cs[i]? = some x → RepV w F ρ N d x) := by
  cases h with | fn _ _ _ fs cs hf hc h1 h2 => exact ⟨fs, cs, rfl, hf, hc, h1, h2⟩
/-- A slice's value is a slice. -/
theorem RepV.sl_inv {k b i n : Nat} {v : Value} (h : RepV w F ρ N (.sl k b i n) v) : N b ∧ (ρ b).k = k ∧ n ≤ maxL ∧
    (((ρ b).vir = true ∧ i = 0 ∧ n = 0 ∧ v = .slice none 0 0) ∨
     ((ρ b).vir = false ∧ ∃ (i' cap : Nat) (cs : Array Value) (ty : TypeId), v = .slice (some (adr (ρ b).blk ((ρ b).off + i' * k))) n cap ∧ n ≤ cap ∧ (i' = i ∨ (n = 0 ∧ cap = 0 ∧ i' ≤ i)) ∧
       w.heap[(ρ b).blk]? = some (.cells cs ty (0, 0)) ∧ (ρ b).off + (i + cap) * k ≤ cs.size)) := by
  cases h with
  | sl _ _ _ _ i' cap hN hk hv hn hm hi cs ty hb hs => exact ⟨hN, hk, hm, .inr ⟨hv, i', cap, cs, ty, rfl, hn, hi, hb, hs⟩⟩
  | slv _ _ hN hk hv => exact ⟨hN, hk, Nat.zero_le _, .inl ⟨hv, rfl, rfl, rfl⟩⟩
theorem RepV.fz_inv {k : Nat} {rows : List (List DV)} {v : Value} (h : RepV w F ρ N (.fz k rows) v) : rows.length ≤ maxL ∧ (∀ r ∈ rows, r.length = k) ∧
    ((rows = [] ∧ v = .slice none 0 0) ∨
     ∃ (a o cap : Nat) (vals : Nat → Nat → Value), v = .slice (some (adr a o)) rows.length cap ∧ F a ∧ rows.length ≤ cap ∧
       (∀ i j, i < rows.length → j < k → w.cell? (adr a (o + i * k + j)) = some (vals i j) ∧ (vals i j).oneCell' = true) ∧
       (∀ (i j : Nat) (r : List DV) (d : DV), rows[i]? = some r → r[j]? = some d → RepV w F ρ N d (vals i j))) := by
  cases h with
  | fz _ _ a o cap vals hF hcap hm hk hc h => exact ⟨hm, hk, .inr ⟨a, o, cap, vals, rfl, hF, hcap, hc, h⟩⟩
  | fznil _ => exact ⟨Nat.zero_le _, by simp, .inl ⟨rfl, rfl⟩⟩

theorem RepV.cells {d : DV} {v : Value} (h : RepV w F ρ N d v) : (cellsOf d).length = v.cells.size ∧
    ∀ (i : Nat) (x : DV) (y : Value), (cellsOf d)[i]? = some x → v.cells[i]? = some y → RepV w F ρ N x y := by
  have one : ∀ {d : DV} {v : Value}, RepV w F ρ N d v → cellsOf d = [d] → v.cells = #[v] → (cellsOf d).length = v.cells.size ∧
      ∀ (i : Nat) (x : DV) (y : Value), (cellsOf d)[i]? = some x → v.cells[i]? = some y → RepV w F ρ N x y := by
    intro d v h e1 e2
    rw [e1, e2]
    refine ⟨rfl, fun i x y hx hy => ?_⟩
    cases i with
    | zero => simp at hx hy; subst hx; subst hy; exact h
    | succ i => simp at hx
  cases h with
  | agg cs vs hl h => exact ⟨hl, h⟩
  | any v hv => exact one (.any v hv) rfl (by cases v <;> first | rfl | simp [Value.oneCell'] at hv)
  | int k n => exact one (.int k n) rfl rfl
  | bool b => exact one (.bool b) rfl rfl
  | nilp => exact one .nilp rfl rfl
  | nilsl => exact one .nilsl rfl rfl
  | nilmp => exact one .nilmp rfl rfl
  | nilfn => exact one .nilfn rfl rfl
  | tup cs vs hl h => exact one (.tup cs vs hl h) rfl rfl
  | ptr b r c h1 h2 => exact one (.ptr b r c h1 h2) rfl rfl
  | fp cs a o vals h1 h2 h3 => exact one (.fp cs a o vals h1 h2 h3) rfl rfl
  | sl k b i n i' cap h1 h2 h3 h4 h5 h6 cs ty h7 h8 => exact one (.sl k b i n i' cap h1 h2 h3 h4 h5 h6 cs ty h7 h8) rfl rfl
  | slv k b h1 h2 h3 => exact one (.slv k b h1 h2 h3) rfl rfl
  | fz k rows a o cap vals h1 h2 h3 h4 h5 h6 => exact one (.fz k rows a o cap vals h1 h2 h3 h4 h5 h6) rfl rfl
  | fznil k => exact one (.fznil k) rfl rfl
  | mp b h1 => exact one (.mp b h1) rfl rfl
  | fn f a c fs cs h1 h2 h3 h4 => exact one (.fn f a c fs cs h1 h2 h3 h4) rfl rfl

/-- What may be the value of a cell is that of one. -/
theorem RepV.oneCell {d : DV} {v : Value} (h : RepV w F ρ N d v) (hd : cellD d = true) : v.oneCell' = true := by
  cases h <;> first | rfl | assumption | simp [cellD] at hd

theorem repS (v : Value) (h : okS v = true) : RepV w F ρ N (ofS v) v := by
  unfold ofS
  split
  · exact .int _ _
  · exact .bool _
  · exact .nilp
  · exact .nilsl
  · exact .nilmp
  · exact .nilfn
  · exact .any _ h

theorem repOf (v : Value) (h : okV v = true) : RepV w F ρ N (ofV v) v := by
  cases v with
  | agg cs =>
    simp only [ofV]
    refine .agg _ _ (by simp) fun i d x hd hx => ?_
    simp only [List.getElem?_map, Array.getElem?_toList, hx, Option.map_some, Option.some.injEq] at hd
    subst hd
    refine repS x ?_
    simp only [okV, Array.all_eq_true] at h
    obtain ⟨hi, rfl⟩ := Array.getElem?_eq_some_iff.1 hx
    exact h i hi
  | _ => exact repS _ h

end

/-- An operation has gone as it is told. -/
def Good (P : Program) (o : Oper) (ev : Operand → Value) (w : World) (F : Nat → Prop) (ρ : Nat → Place) (N : Nat → Prop) (h : Nat → Option Blk) (nb : Nat) (eff : Eff) : Prop :=
  ∃ (nx : Next) (w' : World) (ρ' : Nat → Place), (execOp ev o).run P w = .ok nx w' ∧ Tr w F ρ N h w' F ρ' (Nn N nb) (updB h eff.U) ∧
    ((∃ v, nx = .value v ∧ ∀ d, eff.d = some d → RepV w' F ρ' (Nn N nb) d v) ∨ (nx = .skip ∧ eff.d = none))

section
variable {P : Program} {o : Oper} {ev : Operand → Value} {w : World} {F : Nat → Prop} {ρ : Nat → Place} {N : Nat → Prop} {h : Nat → Option Blk} {nb : Nat}

theorem RepV.nn {d : DV} {v : Value} (hv : RepV w F ρ N d v) : RepV w F ρ (Nn N nb) d v :=
  hv.mono (Ev.refl w) (fun _ ha => ⟨ha, rfl⟩) (fun _ hn => ⟨.inl hn, rfl⟩)

theorem Good.pure (H : HOk w F ρ N h) {v : Value} {d : OD} (hr : (execOp ev o).run P w = .ok (.value v) w) (hv : ∀ x, d = some x → RepV w F ρ N x v) :
    Good P o ev w F ρ N h nb ⟨d, []⟩ :=
  ⟨.value v, w, ρ, hr, Tr.idle H nb, .inl ⟨v, rfl, fun x hx => (hv x hx).nn⟩⟩

theorem valE_inv {x : OD} {eff : Eff} (hx : valE x = some eff) : ∃ d, x = some d ∧ eff = ⟨some d, []⟩ := by
  cases x with
  | none => simp [valE] at hx
  | some d => simp [valE] at hx; exact ⟨d, rfl, hx.symm⟩

/-- A pure operation by its value. -/
theorem Good.val (H : HOk w F ρ N h) {x : OD} {eff : Eff} (hx : valE x = some eff)
    (hr : ∀ d, x = some d → ∃ v, (execOp ev o).run P w = .ok (.value v) w ∧ RepV w F ρ N d v) : Good P o ev w F ρ N h nb eff := by
  obtain ⟨d, rfl, rfl⟩ := valE_inv hx
  obtain ⟨v, h1, h2⟩ := hr d rfl
  exact Good.pure H h1 fun y hy => by cases hy; exact h2

theorem tiOf_inv {t : TypeId} {ti : TI} (ht : tiOf P t = some ti) : ∃ i u z, P.info? t = some i ∧ P.underlying t = some u ∧ i.zero = some z ∧ okV z = true ∧
    ti = { k := tkOf P t u, size := i.size, bytes := i.bytes, wf := wfZ i z, zero := ofV z } := by
  unfold tiOf at ht
  split at ht
  · rename_i i u hi hu
    split at ht
    · rename_i z hz
      split at ht
      · rename_i hk
        exact ⟨i, u, z, hi, hu, hz, hk, (Option.some.inj ht).symm⟩
      · cases ht
    · cases ht
  · cases ht

theorem wfZ_inv {i : TypeInfo} {z : Value} (h : wfZ i z = true) : (cellsOf (ofV z)).length = i.size ∧ (cellsOf (ofV z)).all cellD = true ∧ 0 < i.size ∧ 0 < i.bytes := by
  unfold wfZ at h
  simp only [Bool.and_eq_true, beq_iff_eq, decide_eq_true_eq] at h
  exact ⟨h.1.1.1, h.1.1.2, h.1.2, h.2⟩

/-- The operands' values are told. -/
def Evs (e : O → OD) (ev : Operand → Value) (w : World) (F : Nat → Prop) (ρ : Nat → Place) (N : Nat → Prop) : Prop :=
  ∀ x, okO x = true → ∀ d, e (stO x) = some d → RepV w F ρ N d (ev x)

theorem tk_struct {t : TypeId} {u : TypeDesc} {fs : List (Nat × Nat)} {fl : Option (List Bool)} (h : tkOf P t u = .struct fs fl) :
    ∃ fields, u = .struct fields ∧ (fs = fields.toList.map fun f => (f.offset, P.cellsOf f.type)) ∧ (fields.all fun f => (P.info? f.type).isSome) = true ∧
      fl = if (fields.all fun f => scalarT P f.type && f.name != "_") && seqFrom 0 fs && !P.stoodInHeld t && !P.eqGuardType P.depth t then some (fields.toList.map fun f => isBoolT P f.type) else none := by
  cases u with
  | struct fields =>
    simp only [tkOf] at h
    split at h
    · rename_i ha
      injection h with h1 h2
      exact ⟨fields, rfl, h1.symm, ha, by rw [← h1]; exact h2.symm⟩
    · cases h
  | _ => simp [tkOf] at h
theorem tk_slice {t : TypeId} {u : TypeDesc} {e : Nat} (h : tkOf P t u = .slice e) : u = .slice e := by
  cases u with
  | struct fs => simp only [tkOf] at h; split at h <;> cases h
  | _ => simp [tkOf] at h <;> simp [h]
theorem tk_arr {t : TypeId} {u : TypeDesc} {n e : Nat} {fl : Option (List Bool)} (h : tkOf P t u = .arr n e fl) : u = .array n e ∧ fl = if scalarT P e && !P.eqGuardType P.depth t then some (List.replicate n (isBoolT P e)) else none := by
  cases u with
  | struct fs => simp only [tkOf] at h; split at h <;> cases h
  | array m f => simp only [tkOf] at h; injection h with h1 h2 h3; subst h1; subst h2; exact ⟨rfl, h3.symm⟩
  | _ => simp [tkOf] at h
theorem tk_map {t : TypeId} {u : TypeDesc} {k e : Nat} (h : tkOf P t u = .map k e) : u = .map k e := by
  cases u with
  | struct fs => simp only [tkOf] at h; split at h <;> cases h
  | _ => simp [tkOf] at h <;> simp [h]
theorem tk_int {t : TypeId} {u : TypeDesc} {k : IntKind} (h : tkOf P t u = .int k) : u = .int k := by
  cases u with
  | struct fs => simp only [tkOf] at h; split at h <;> cases h
  | _ => simp [tkOf] at h <;> simp [h]
theorem tk_bool {t : TypeId} {u : TypeDesc} (h : tkOf P t u = .bool) : u = .bool := by
  cases u with
  | struct fs => simp only [tkOf] at h; split at h <;> cases h
  | _ => simp [tkOf] at h <;> rfl

theorem run_isAgg {t : TypeId} {u : TypeDesc} {b : Bool} (hu : P.underlying t = some u) (hb : (tkOf P t u).isAgg = some b) : (isAgg t).run P w = .ok b w := by
  unfold isAgg
  simp only [Sem.run_bind, run_under hu, Result.andThen_ok]
  cases u with
  | struct fs =>
    simp only [tkOf] at hb
    split at hb <;> simp [TK.isAgg] at hb
    subst hb; rfl
  | _ => simp [tkOf, TK.isAgg] at hb <;> (subst hb; rfl)

theorem good_mv (H : HOk w F ρ N h) {e : O → OD} (he : Evs e ev w F ρ N) {x : Operand} (ho : o.op = .move x ∨ o.op = .assign x) (hx : okO x = true) :
    Good P o ev w F ρ N h nb ⟨e (stO x), []⟩ :=
  Good.pure H (v := ev x) (by rcases ho with ho | ho <;> simp [execOp, ho]) (fun d hd => he x hx d hd)

theorem good_pick (H : HOk w F ρ N h) {e : O → OD} (he : Evs e ev w F ρ N) {c a b : Operand} {eff : Eff} (ho : o.op = .pick c a b)
    (h1 : okO c = true) (h2 : okO a = true) (h3 : okO b = true) (ha : valE (pickA (e (stO c)) (e (stO a)) (e (stO b))) = some eff) : Good P o ev w F ρ N h nb eff := by
  refine Good.val H ha fun d hd => ?_
  unfold pickA at hd
  split at hd
  · rename_i hc
    have := (he c h1 _ hc).bool_inv
    exact ⟨ev a, by simp [execOp, ho, this, asBool], he a h2 d hd⟩
  · rename_i hc
    have := (he c h1 _ hc).bool_inv
    exact ⟨ev b, by simp [execOp, ho, this, asBool], he b h3 d hd⟩
  · cases hd

theorem good_un (H : HOk w F ρ N h) {e : O → OD} (he : Evs e ev w F ρ N) {op : UnOp} {t : TypeId} {x : Operand} {eff : Eff} (ho : o.op = .unOp op t x)
    (h1 : okO x = true) (ha : valE (unA op (e (stO x))) = some eff) : Good P o ev w F ρ N h nb eff := by
  refine Good.val H ha fun d hd => ?_
  unfold unA at hd
  split at hd
  · rename_i b hx
    cases hd
    exact ⟨.bool (!b), by simp [execOp, ho, (he x h1 _ hx).bool_inv, Op.unary], .bool _⟩
  · rename_i k n hx
    cases hd
    exact ⟨.int k (k.wrap (0 - n)), by simp [execOp, ho, (he x h1 _ hx).int_inv, Op.unary, Op.intArith], .int _ _⟩
  · rename_i k n hx
    simp only [intA, Option.some.injEq] at hd
    subst hd
    refine ⟨_, ?_, .int _ _⟩
    simp only [execOp, ho, (he x h1 _ hx).int_inv, Op.unary, Op.intBits]
    rfl
  · cases hd

theorem good_conv (H : HOk w F ρ N h) {e : O → OD} (he : Evs e ev w F ρ N) {s d : TypeId} {x : Operand} {eff : Eff} (ho : o.op = .convert s d x)
    (h1 : okO x = true) (ha : valE (convA (tiOf P s) (tiOf P d) (e (stO x))) = some eff) : Good P o ev w F ρ N h nb eff := by
  refine Good.val H ha fun y hy => ?_
  unfold convA at hy
  split at hy
  · rename_i k n hx
    split at hy
    · rename_i ks _ _ _ _ k' _ _ _ _ hs hd'
      cases hy
      obtain ⟨i, u, z, hi, hu, _, _, e1⟩ := tiOf_inv hs
      obtain ⟨i', u', z', hi', hu', _, _, e2⟩ := tiOf_inv hd'
      simp only [TI.mk.injEq] at e1 e2
      have hu1 := tk_int e1.1.symm
      have hu2 := tk_int e2.1.symm
      subst hu1; subst hu2
      refine ⟨_, ?_, .int _ _⟩
      simp only [execOp, ho, (he x h1 _ hx).int_inv, convert, Sem.run_bind, run_under hu, run_under hu', Result.andThen_ok]
      rfl
    · cases hy
  · cases hy

theorem good_ext (H : HOk w F ρ N h) {e : O → OD} (he : Evs e ev w F ρ N) {i : Nat} {x : Operand} {eff : Eff} (ho : o.op = .extract x i)
    (h1 : okO x = true) (ha : valE (extA i (e (stO x))) = some eff) : Good P o ev w F ρ N h nb eff := by
  refine Good.val H ha fun y hy => ?_
  unfold extA at hy
  split at hy
  · rename_i cs hx
    obtain ⟨vs, hv, hl, hr⟩ := (he x h1 _ hx).tup_inv
    obtain ⟨hi, rfl⟩ := List.getElem?_eq_some_iff.1 hy
    have hi' : i < vs.size := by omega
    refine ⟨vs[i], ?_, hr i _ _ hy (by simp [hi'])⟩
    simp [execOp, ho, hv, Instr.extract, hi']
  · cases hy

theorem run_fieldAddr {s : TypeId} {fields : Array Field} {f : Nat} {fd : Field} {b c : Nat} {i : TypeInfo} (hu : P.underlying s = some (.struct fields)) (hf : fields[f]? = some fd)
    (hi : P.info? fd.type = some i) (hs : i.size ≠ 0) : (Instr.fieldAt s (.pointer (some (adr b c))) f).run P w = .ok (.pointer (some (adr b (c + fd.offset)))) w := by
  simp only [Instr.fieldAt, Sem.run_bind, run_under hu, Result.andThen_ok, hf, Instr.sureAddr, Sem.run_pure]
  simp only [fieldPlace, Sem.run_bind, run_size hi, Result.andThen_ok, hs, if_false, addr_add, Sem.run_pure]

theorem field_inv {s : TypeId} {fs : List (Nat × Nat)} {fl : Option (List Bool)} {sz by_ : Nat} {wf : Bool} {z : DV} {f off size : Nat} (ht : tiOf P s = some ⟨.struct fs fl, sz, by_, wf, z⟩) (hf : fs[f]? = some (off, size)) (hs : size ≠ 0) :
    ∃ fields fd i, P.underlying s = some (.struct fields) ∧ fields[f]? = some fd ∧ P.info? fd.type = some i ∧ i.size = size ∧ fd.offset = off := by
  obtain ⟨i, u, z, hi, hu, _, _, e1⟩ := tiOf_inv ht
  simp only [TI.mk.injEq] at e1
  obtain ⟨fields, rfl, rfl, _⟩ := tk_struct e1.1.symm
  simp only [List.getElem?_map, Array.getElem?_toList, Option.map_eq_some_iff, Prod.mk.injEq] at hf
  obtain ⟨fd, h1, h2, h3⟩ := hf
  cases hinfo : P.info? fd.type with
  | none => simp [Program.cellsOf, hinfo] at h3; omega
  | some j => exact ⟨fields, fd, j, hu, h1, hinfo, by simpa [Program.cellsOf, hinfo] using h3, h2⟩

theorem good_faddr (H : HOk w F ρ N h) {e : O → OD} (he : Evs e ev w F ρ N) {s : TypeId} {x : Operand} {f : Nat} {eff : Eff} (ho : o.op = .fieldAddr s x f)
    (h1 : okO x = true) (ha : valE (faddrA (tiOf P s) f (e (stO x))) = some eff) : Good P o ev w F ρ N h nb eff := by
  refine Good.val H ha fun y hy => ?_
  unfold faddrA at hy
  split at hy
  · rename_i b r c hx
    split at hy
    · rename_i fs fl sz by_ wf z ht
      split at hy
      · rename_i off size hf
        split at hy
        · cases hy
        · rename_i hs
          cases hy
          obtain ⟨fields, fd, i, hu, hfd, hi, hsz, hoff⟩ := field_inv ht hf hs
          obtain ⟨hv, hN, hvir⟩ := (he x h1 _ hx).ptr_inv
          have hp := RepV.ptr (w := w) (F := F) b r (c + off) hN hvir
          rw [← Nat.add_assoc] at hp
          refine ⟨_, ?_, hp⟩
          have hrun := run_fieldAddr (w := w) (b := (ρ b).blk) (c := (ρ b).off + r * (ρ b).k + c) hu hfd hi (by omega)
          simp only [execOp, ho, hv, Sem.run_bind, hrun, Result.andThen_ok, Sem.run_pure, hoff]
      · cases hy
    · cases hy
  · rename_i cs hx
    split at hy
    · rename_i fs fl sz by_ wf z ht
      split at hy
      · rename_i off size hf
        split at hy
        · cases hy
        · rename_i hs
          cases hy
          obtain ⟨fields, fd, i, hu, hfd, hi, hsz, hoff⟩ := field_inv ht hf hs
          obtain ⟨a, c, vals, hv, hF, hc, hr⟩ := (he x h1 _ hx).fp_inv
          refine ⟨_, ?_, .fp (cs.drop off) a (c + off) (fun i => vals (off + i)) hF ?_ ?_⟩
          · have hrun := run_fieldAddr (w := w) (b := a) (c := c) hu hfd hi (by omega)
            simp only [execOp, ho, hv, Sem.run_bind, hrun, Result.andThen_ok, Sem.run_pure, hoff]
          · intro j hj
            simp only [List.length_drop] at hj
            rw [Nat.add_assoc]
            exact hc (off + j) (by omega)
          · intro j d hd
            exact hr (off + j) d (by simpa using hd)
      · cases hy
    · cases hy
  · cases hy

theorem good_nilck (H : HOk w F ρ N h) {e : O → OD} (he : Evs e ev w F ρ N) {x : Operand} {eff : Eff} (ho : o.op = .nilCheck x)
    (h1 : okO x = true) (ha : valE (nilckA (e (stO x))) = some eff) : Good P o ev w F ρ N h nb eff := by
  refine Good.val H ha fun y hy => ?_
  unfold nilckA at hy
  split at hy
  · rename_i b r c hx
    cases hy
    have hv := (he x h1 _ hx).ptr_inv.1
    exact ⟨ev x, by simp [execOp, ho, hv], he x h1 _ hx⟩
  · rename_i cs hx
    cases hy
    obtain ⟨a, c, vals, hv, _⟩ := (he x h1 _ hx).fp_inv
    exact ⟨ev x, by simp [execOp, ho, hv], he x h1 _ hx⟩
  · rename_i f a c hx
    cases hy
    obtain ⟨fs, cs, hv, _⟩ := (he x h1 _ hx).fn_inv
    exact ⟨ev x, by simp [execOp, ho, hv], he x h1 _ hx⟩
  · cases hy

theorem allD_inv : ∀ {l : List OD} {ds : List DV}, allD l = some ds → l = ds.map some := by
  intro l
  induction l with
  | nil => intro ds hd; simp [allD] at hd; simp [← hd]
  | cons x l ih =>
    intro ds hd
    cases x with
    | none => simp [allD] at hd
    | some d =>
      simp only [allD, Option.map_eq_some_iff] at hd
      obtain ⟨r, hr, rfl⟩ := hd
      simp [ih hr]

theorem all_operands {e : O → OD} (he : Evs e ev w F ρ N) {xs : List Operand} {ds : List DV} (hok : ∀ x ∈ xs, okO x = true) (hd : allD ((xs.map stO).map e) = some ds) :
    ds.length = xs.length ∧ ∀ (i : Nat) (d : DV) (v : Value), ds[i]? = some d → (xs.map ev)[i]? = some v → RepV w F ρ N d v := by
  have h1 := allD_inv hd
  have hl : ds.length = xs.length := by simpa using (congrArg List.length h1).symm
  refine ⟨hl, fun i d v hdi hvi => ?_⟩
  have h2 : ((xs.map stO).map e)[i]? = (ds.map some)[i]? := by rw [h1]
  simp only [List.getElem?_map, hdi, Option.map_some] at h2 hvi
  cases hx : xs[i]? with
  | none => simp [hx] at h2
  | some x =>
    simp only [hx, Option.map_some, Option.some.injEq] at h2 hvi
    subst hvi
    exact he x (hok x (List.mem_of_getElem? hx)) d h2

theorem good_mkfn (H : HOk w F ρ N h) {e : O → OD} (he : Evs e ev w F ρ N) {f : Nat} {a c : Array Operand} {a' c' : List DV} (ho : o.op = .makeFunc (.func f) a c)
    (h1 : ∀ x ∈ a.toList, okO x = true) (h2 : ∀ x ∈ c.toList, okO x = true) (ha : allD ((a.toList.map stO).map e) = some a') (hc : allD ((c.toList.map stO).map e) = some c') :
    Good P o ev w F ρ N h nb ⟨some (.fn f a' c'), []⟩ := by
  obtain ⟨l1, r1⟩ := all_operands he h1 ha
  obtain ⟨l2, r2⟩ := all_operands he h2 hc
  refine Good.pure H (v := .func (.func f) (a.map ev) (c.map ev)) (by simp [execOp, ho, Instr.makeFunc]) fun d hd => ?_
  cases hd
  refine .fn f a' c' _ _ (by simpa using l1) (by simpa using l2) (fun i d v hd hv => r1 i d v hd ?_) (fun i d v hd hv => r2 i d v hd ?_)
  · simpa using hv
  · simpa using hv

theorem good_max (H : HOk w F ρ N h) {e : O → OD} (he : Evs e ev w F ρ N) {c : Call} {x y : Operand} {eff : Eff} (ho : o.op = .call c) (hc : c.callee = .builtin .max) (hargs : c.args.toList = [x, y])
    (h1 : okO x = true) (h2 : okO y = true) (ha : valE (maxA (e (stO x)) (e (stO y))) = some eff) : Good P o ev w F ρ N h nb eff := by
  refine Good.val H ha fun d hd => ?_
  unfold maxA at hd
  split at hd
  · rename_i k a k' b hx hy
    cases hd
    have ha' : c.args = #[x, y] := by apply Array.toList_inj.1; simpa using hargs
    refine ⟨.int k (if b > a then b else a), ?_, .int _ _⟩
    simp [execOp, ho, resolve, hc, ha', invoke, builtin, Builtin.max_, (he x h1 _ hx).int_inv, (he y h2 _ hy).int_inv, Builtin.max2]
  · cases hd

theorem good_min (H : HOk w F ρ N h) {e : O → OD} (he : Evs e ev w F ρ N) {c : Call} {x y : Operand} {eff : Eff} (ho : o.op = .call c) (hc : c.callee = .builtin .min) (hargs : c.args.toList = [x, y])
    (h1 : okO x = true) (h2 : okO y = true) (ha : valE (minA (e (stO x)) (e (stO y))) = some eff) : Good P o ev w F ρ N h nb eff := by
  refine Good.val H ha fun d hd => ?_
  unfold minA at hd
  split at hd
  · rename_i k a k' b hx hy
    cases hd
    have ha' : c.args = #[x, y] := by apply Array.toList_inj.1; simpa using hargs
    refine ⟨.int k (if b < a then b else a), ?_, .int _ _⟩
    simp [execOp, ho, resolve, hc, ha', invoke, builtin, Builtin.min_, (he x h1 _ hx).int_inv, (he y h2 _ hy).int_inv, Builtin.min2]
  · cases hd

end
end Go.Fv
/- ABSTRACT VALUES AND STATES (5): index addresses, loads, aggregates, slices, lengths, operators. -/
namespace Go.Fv

section
variable {P : Program} {o : Oper} {ev : Operand → Value} {w : World} {F : Nat → Prop} {ρ : Nat → Place} {N : Nat → Prop} {h : Nat → Option Blk} {nb : Nat}

theorem elTI_inv {t : TypeId} {ei : TI} (ht : elTI (tiOf P) t = some ei) : ∃ e i u z, P.underlying t = some (.slice e) ∧ P.info? e = some i ∧ P.underlying e = some u ∧ i.zero = some z ∧ okV z = true ∧
    ei = { k := tkOf P e u, size := i.size, bytes := i.bytes, wf := wfZ i z, zero := ofV z } := by
  unfold elTI at ht
  split at ht
  · rename_i e _ _ _ _ hs
    obtain ⟨i, u, z, hi, hu, _, _, e1⟩ := tiOf_inv hs
    simp only [TI.mk.injEq] at e1
    have := tk_slice e1.1.symm
    subst this
    obtain ⟨i', u', z', hi', hu', hz', hok, e2⟩ := tiOf_inv ht
    exact ⟨e, i', u', z', hu, hi', hu', hz', hok, e2⟩
  · cases ht

theorem elSize_inv {t k : Nat} (ht : elSize (tiOf P) t = some k) : ∃ e i, P.underlying t = some (.slice e) ∧ P.info? e = some i ∧ i.size = k := by
  unfold elSize at ht
  split at ht
  · rename_i e _ _ _ _ hs
    obtain ⟨i, u, z, hi, hu, _, _, e1⟩ := tiOf_inv hs
    simp only [TI.mk.injEq] at e1
    have := tk_slice e1.1.symm
    subst this
    simp only [Option.map_eq_some_iff] at ht
    obtain ⟨ei, he, rfl⟩ := ht
    obtain ⟨i', u', z', hi', hu', hz', hok, e2⟩ := tiOf_inv he
    exact ⟨e, i', hu, hi', by rw [e2]⟩
  · cases ht

theorem arr_inv {t n e : Nat} {fl : Option (List Bool)} {sz by_ : Nat} {wf : Bool} {z : DV} {ei : TI} (ht : tiOf P t = some ⟨.arr n e fl, sz, by_, wf, z⟩) (he : tiOf P e = some ei) :
    ∃ i, P.underlying t = some (.array n e) ∧ P.info? e = some i ∧ i.size = ei.size := by
  obtain ⟨i, u, z, hi, hu, _, _, e1⟩ := tiOf_inv ht
  simp only [TI.mk.injEq] at e1
  obtain ⟨rfl, _⟩ := tk_arr e1.1.symm
  obtain ⟨i', u', z', hi', hu', hz', hok, e2⟩ := tiOf_inv he
  exact ⟨i', hu, hi', by rw [e2]⟩

theorem run_index_slice {t e : TypeId} {k : IntKind} {b c n cap : Nat} {j : Int} {i : TypeInfo} (hu : P.underlying t = some (.slice e)) (hi : P.info? e = some i)
    (h0 : 0 ≤ j) (h1 : j < n) : (Instr.indexAt t (.slice (some (adr b c)) n cap) (.int k j)).run P w = .ok (.pointer (some (adr b (c + j.toNat * i.size)))) w := by
  simp only [Instr.indexAt, asIntOf, Sem.run_bind, Sem.run_pure, Result.andThen_ok, run_under hu, h0, h1, and_self, if_true, run_size hi, addr_add]

theorem run_index_arr {t e : TypeId} {k : IntKind} {b c n : Nat} {j : Int} {i : TypeInfo} (hu : P.underlying t = some (.array n e)) (hi : P.info? e = some i)
    (h0 : 0 ≤ j) (h1 : j < n) : (Instr.indexAt t (.pointer (some (adr b c))) (.int k j)).run P w = .ok (.pointer (some (adr b (c + j.toNat * i.size)))) w := by
  simp only [Instr.indexAt, asIntOf, Sem.run_bind, Sem.run_pure, Result.andThen_ok, run_under hu, Instr.sureAddr, h0, h1, and_self, if_true, run_size hi, addr_add]

theorem good_iaddr (H : HOk w F ρ N h) {e : O → OD} (he : Evs e ev w F ρ N) {t : TypeId} {x i : Operand} {eff : Eff} (ho : o.op = .indexAddr t x i)
    (h1 : okO x = true) (h2 : okO i = true) (ha : valE (iaddrA (tiOf P) t (e (stO x)) (e (stO i))) = some eff) : Good P o ev w F ρ N h nb eff := by
  refine Good.val H ha fun y hy => ?_
  unfold iaddrA at hy
  split at hy
  · rename_i k b s n ki j hx hi'
    split at hy
    · rename_i hs
      split at hy
      · rename_i hb
        cases hy
        obtain ⟨el, inf, hu, hinf, hsz⟩ := elSize_inv hs
        obtain ⟨hN, hk, _, h3 | ⟨hv, i', cap, cs, ty, hval, hn, hii, hblk, hsize⟩⟩ := (he x h1 _ hx).sl_inv
        · omega
        · have hi2 : i' = s := by omega
          subst hi2
          refine ⟨_, ?_, .ptr b (i' + j.toNat) 0 hN hv⟩
          have hrun := run_index_slice (w := w) (k := ki) (b := (ρ b).blk) (c := (ρ b).off + i' * k) (n := n) (cap := cap) hu hinf hb.1 hb.2
          simp only [execOp, ho, hval, (he i h2 _ hi').int_inv, Sem.run_bind, hrun, Result.andThen_ok, Sem.run_pure, hsz, hk, Nat.add_mul, Nat.add_zero, Nat.add_assoc]
      · cases hy
    · cases hy
  · rename_i k rows ki j hx hi'
    split at hy
    · rename_i hs
      split at hy
      · rename_i hb
        cases hy
        obtain ⟨el, inf, hu, hinf, hsz⟩ := elSize_inv hs
        obtain ⟨_, hk, ⟨h3, _⟩ | ⟨a, c, cap, vals, hval, hF, hcap, hc, hr⟩⟩ := (he x h1 _ hx).fz_inv
        · subst h3; simp at hb; omega
        · have hjl : j.toNat < rows.length := by omega
          have hget : rows.getD j.toNat [] = rows[j.toNat] := by simp [hjl]
          have hlen : rows[j.toNat].length = k := hk _ (List.getElem_mem hjl)
          rw [hget]
          refine ⟨_, ?_, .fp rows[j.toNat] a (c + j.toNat * k) (vals j.toNat) hF (fun q hq => (hc j.toNat q hjl (by omega)).1) (fun q d hd => hr j.toNat q _ d (by simp [hjl]) hd)⟩
          have hrun := run_index_slice (w := w) (k := ki) (b := a) (c := c) (n := rows.length) (cap := cap) hu hinf hb.1 hb.2
          simp only [execOp, ho, hval, (he i h2 _ hi').int_inv, Sem.run_bind, hrun, Result.andThen_ok, Sem.run_pure, hsz]
      · cases hy
    · cases hy
  · rename_i b r c ki j hx hi'
    split at hy
    · rename_i n el fl sz by_ wf z ht
      split at hy
      · rename_i ei hei
        split at hy
        · rename_i hb
          cases hy
          obtain ⟨inf, hu, hinf, hsz⟩ := arr_inv ht hei
          obtain ⟨hval, hN, hv⟩ := (he x h1 _ hx).ptr_inv
          have hp := RepV.ptr (w := w) (F := F) b r (c + j.toNat * ei.size) hN hv
          rw [← Nat.add_assoc] at hp
          refine ⟨_, ?_, hp⟩
          have hrun := run_index_arr (w := w) (k := ki) (b := (ρ b).blk) (c := (ρ b).off + r * (ρ b).k + c) hu hinf hb.1 hb.2
          simp only [execOp, ho, hval, (he i h2 _ hi').int_inv, Sem.run_bind, hrun, Result.andThen_ok, Sem.run_pure, hsz]
        · cases hy
      · cases hy
    · cases hy
  · rename_i cs ki j hx hi'
    split at hy
    · rename_i n el fl sz by_ wf z ht
      split at hy
      · rename_i ei hei
        split at hy
        · rename_i hb
          cases hy
          obtain ⟨inf, hu, hinf, hsz⟩ := arr_inv ht hei
          obtain ⟨a, c, vals, hval, hF, hc, hr⟩ := (he x h1 _ hx).fp_inv
          refine ⟨_, ?_, .fp (cs.drop (j.toNat * ei.size)) a (c + j.toNat * ei.size) (fun q => vals (j.toNat * ei.size + q)) hF ?_ ?_⟩
          · have hrun := run_index_arr (w := w) (k := ki) (b := a) (c := c) hu hinf hb.1 hb.2
            simp only [execOp, ho, hval, (he i h2 _ hi').int_inv, Sem.run_bind, hrun, Result.andThen_ok, Sem.run_pure, hsz]
          · intro q hq
            simp only [List.length_drop] at hq
            rw [Nat.add_assoc]
            exact hc _ (by omega)
          · intro q d hd
            exact hr _ d (by simpa using hd)
        · cases hy
      · cases hy
    · cases hy
  · cases hy

/-- A variable whose cells are known is read whole. -/
theorem run_loadVar {t : TypeId} {ti : TI} {cs : List DV} {d : DV} {b c : Nat} (vals : Nat → Value) (ht : tiOf P t = some ti) (hp : packA (some ti) cs = some d)
    (hc : ∀ i, i < cs.length → w.cell? (adr b (c + i)) = some (vals i)) (hr : ∀ (i : Nat) (d : DV), cs[i]? = some d → RepV w F ρ N d (vals i)) :
    ∃ v, (loadVar t (adr b c)).run P w = .ok v w ∧ RepV w F ρ N d v := by
  obtain ⟨i, u, z, hi, hu, _, _, e1⟩ := tiOf_inv ht
  subst e1
  unfold packA at hp
  simp only at hp
  split at hp
  · rename_i hag
    split at hp
    · rename_i hle
      cases hp
      have hrun := run_loadCells (w := w) (P := P) b c i.size vals (fun j hj => hc j (by omega))
      refine ⟨.agg ((List.range i.size).map vals).toArray, ?_, .agg _ _ (by simp; omega) fun q d v hd hv => ?_⟩
      · simp only [loadVar, Sem.run_bind, run_isAgg hu hag, Result.andThen_ok, if_true, run_size hi, hrun, Sem.run_pure]
      · rw [List.getElem?_take] at hd
        split at hd
        · rename_i hq
          simp [hq] at hv
          subst hv
          exact hr q d hd
        · cases hd
    · cases hp
  · rename_i hag
    have h0 : 0 < cs.length := by
      rcases Nat.eq_zero_or_pos cs.length with h0 | h0
      · simp [List.length_eq_zero_iff.1 h0] at hp
      · exact h0
    refine ⟨vals 0, ?_, hr 0 d hp⟩
    have := hc 0 h0
    simp only [loadVar, Sem.run_bind, run_isAgg hu hag, Result.andThen_ok, Bool.false_eq_true, if_false, Sem.run_ite]
    simpa using run_load_at (P := P) this
  · cases hp

theorem row_cells (H : HOk w F ρ N h) {b r : Nat} {row : List DV} (hrow : rowOf h b r = some row) :
    (ρ b).vir = true ∨ ∃ (vals : Nat → Value), ∀ j, j < row.length → w.cell? (adr (ρ b).blk ((ρ b).off + r * (ρ b).k + j)) = some (vals j) ∧
      ∀ (d : DV), row[j]? = some d → RepV w F ρ N d (vals j) := by
  unfold rowOf at hrow
  split at hrow
  · rename_i k rs hb
    obtain ⟨_, hk, hrs, ⟨hv, _⟩ | ⟨hv, cs, ty, hblk, hsz, hd⟩⟩ := H.ok b _ hb
    · exact .inl hv
    · refine .inr ⟨fun j => (cs[(ρ b).off + r * (ρ b).k + j]?).getD undef, fun j hj => ?_⟩
      obtain ⟨v, h3, _, h5⟩ := hd r j row row[j] hrow (by simp [hj])
      have hval : (fun j => (cs[(ρ b).off + r * (ρ b).k + j]?).getD undef) j = v := by simp only [hk, h3, Option.getD_some]
      rw [hval]
      refine ⟨by rw [hk, cell?_block hblk, h3], fun d hd' => ?_⟩
      have : row[j] = d := by simpa [hj] using hd'
      subst this
      exact h5
  · cases hrow

theorem good_load (H : HOk w F ρ N h) {e : O → OD} (he : Evs e ev w F ρ N) {t : TypeId} {x : Operand} {eff : Eff} (ho : o.op = .load t x)
    (h1 : okO x = true) (ha : valE (loadA (tiOf P t) h (e (stO x))) = some eff) : Good P o ev w F ρ N h nb eff := by
  refine Good.val H ha fun y hy => ?_
  have key : ∀ {b c : Nat} {cs : List DV} {vals : Nat → Value}, ev x = .pointer (some (adr b c)) → packA (tiOf P t) cs = some y →
      (∀ i, i < cs.length → w.cell? (adr b (c + i)) = some (vals i)) → (∀ (i : Nat) (d : DV), cs[i]? = some d → RepV w F ρ N d (vals i)) →
      ∃ v, (execOp ev o).run P w = .ok (.value v) w ∧ RepV w F ρ N y v := by
    intro b c cs vals hv hp hc hr
    cases ht : tiOf P t with
    | none => simp [ht, packA] at hp
    | some ti =>
      rw [ht] at hp
      obtain ⟨v, hrun, hrep⟩ := run_loadVar vals ht hp hc hr
      refine ⟨v, ?_, hrep⟩
      simp only [execOp, ho, hv, Instr.loadAt, Instr.sureAddr, Sem.run_bind, Sem.run_pure, Result.andThen_ok, hrun]
  unfold loadA at hy
  split at hy
  · rename_i cs hx
    obtain ⟨a, c, vals, hv, _, hc, hr⟩ := (he x h1 _ hx).fp_inv
    exact key hv hy hc hr
  · rename_i b r c hx
    split at hy
    · rename_i row hrow
      obtain ⟨hv, _, hvir⟩ := (he x h1 _ hx).ptr_inv
      rcases row_cells H hrow with h3 | ⟨vals, h3⟩
      · rw [hvir] at h3; cases h3
      · refine key hv hy (vals := fun i => vals (c + i)) (fun i hi => ?_) (fun i d hd => ?_)
        · simp only [List.length_drop] at hi
          rw [Nat.add_assoc]
          exact (h3 (c + i) (by omega)).1
        · have hd' : row[c + i]? = some d := by simpa using hd
          exact (h3 (c + i) (List.getElem?_eq_some_iff.1 hd').1).2 d hd'
    · cases hy
  · cases hy

/-- Cells and their values, side by side. -/
def Cells (w : World) (F : Nat → Prop) (ρ : Nat → Place) (N : Nat → Prop) (ds : List DV) (vs : Array Value) : Prop :=
  ds.length = vs.size ∧ ∀ (i : Nat) (d : DV) (v : Value), ds[i]? = some d → vs[i]? = some v → RepV w F ρ N d v

theorem length_putCells : ∀ (xs row : List DV) (c : Nat), (putCells row c xs).length = row.length := by
  intro xs
  induction xs with
  | nil => intro row c; rfl
  | cons x xs ih => intro row c; simp [putCells, ih]

theorem putCells_get : ∀ (xs row : List DV) (o i : Nat), o + xs.length ≤ row.length →
    (putCells row o xs)[i]? = if o ≤ i ∧ i < o + xs.length then xs[i - o]? else row[i]? := by
  intro xs
  induction xs with
  | nil => intro row o i _; simp [putCells]; omega
  | cons x xs ih =>
    intro row o i hl
    simp only [List.length_cons] at hl
    simp only [putCells]
    rw [ih _ _ _ (by simp; omega)]
    by_cases h1 : o = i
    · subst h1
      rw [if_neg (by omega), if_pos (by simp)]
      have : o < row.length := by omega
      simp [this]
    · by_cases h2 : o + 1 ≤ i ∧ i < o + 1 + xs.length
      · rw [if_pos h2, if_pos (by simp; omega)]
        obtain ⟨k, rfl⟩ : ∃ k, i = o + 1 + k := ⟨i - (o + 1), by omega⟩
        rw [show o + 1 + k - (o + 1) = k from by omega, show o + 1 + k - o = k + 1 from by omega]
        simp
      · rw [if_neg h2, if_neg (by simp; omega), List.getElem?_set_ne h1]

theorem Cells.put {ds xs : List DV} {vs ys : Array Value} {c : Nat} (h1 : Cells w F ρ N ds vs) (h2 : Cells w F ρ N xs ys) (hle : c + xs.length ≤ ds.length) :
    Cells w F ρ N (putCells ds c xs) (putArr vs c ys.toList) := by
  have hl := h1.1
  have hl2 := h2.1
  refine ⟨by simp [length_putCells, hl], fun i d v hd hv => ?_⟩
  rw [putCells_get _ _ _ _ hle] at hd
  rw [putArr_get _ _ _ _ (by simp; omega)] at hv
  simp only [Array.length_toList] at hv
  by_cases hi : c ≤ i ∧ i < c + xs.length
  · rw [if_pos hi] at hd
    rw [if_pos (by omega)] at hv
    exact h2.2 _ d v hd (by simpa using hv)
  · rw [if_neg hi] at hd
    rw [if_neg (by omega)] at hv
    exact h1.2 i d v hd hv

theorem foldl_put (off : Nat) : ∀ (vs : List Value) (j : Nat) (cs : Array Value),
    (vs.zipIdx j).foldl (fun cs (p : Value × Nat) => cs.setIfInBounds (off + p.2) p.1) cs = putArr cs (off + j) vs := by
  intro vs
  induction vs with
  | nil => intro j cs; rfl
  | cons v vs ih => intro j cs; simp [putArr, List.zipIdx_cons, ih, Nat.add_assoc]

theorem fill_ok {place : Nat → Option (Nat × Nat)} : ∀ (ps : List (Nat × OD)) (qs : List (Nat × Value)) (ds r : List DV) (vs : Array Value),
    ps.length = qs.length → (∀ (i : Nat) (p : Nat × OD) (q : Nat × Value), ps[i]? = some p → qs[i]? = some q → p.1 = q.1 ∧ ∀ d, p.2 = some d → RepV w F ρ N d q.2) →
    Cells w F ρ N ds vs → fillA place ds ps = some r → ∃ us, Instr.fill place vs qs = some us ∧ Cells w F ρ N r us := by
  intro ps
  induction ps with
  | nil =>
    intro qs ds r vs hl _ hc hf
    cases qs with
    | nil => simp only [fillA, Option.some.injEq] at hf; subst hf; exact ⟨vs, rfl, hc⟩
    | cons q qs => simp at hl
  | cons p ps ih =>
    intro qs ds r vs hl hp hc hf
    cases qs with
    | nil => simp at hl
    | cons q qs =>
      obtain ⟨i, x⟩ := p
      obtain ⟨i', v⟩ := q
      have h0 := hp 0 (i, x) (i', v) rfl rfl
      obtain ⟨hii, hv⟩ := h0
      simp only at hii
      subst hii
      cases x with
      | none => simp [fillA] at hf
      | some x =>
        have hrep := hv x rfl
        simp only [fillA] at hf
        split at hf
        · rename_i off sz hpl
          split at hf
          · rename_i hcond
            have hcl := hrep.cells
            simp only at hcl
            have hnext := ih qs _ r (putArr vs off v.cells.toList) (by simpa using hl) (fun j p q hpj hqj => hp (j + 1) p q (by simpa using hpj) (by simpa using hqj))
              (hc.put ⟨hcl.1, hcl.2⟩ (by omega)) hf
            obtain ⟨us, hus, hcu⟩ := hnext
            refine ⟨us, ?_, hcu⟩
            have hsz : v.cells.size = sz := by omega
            have hlt : ¬ (off + v.cells.size > vs.size) := by have := hc.1; omega
            simp only [Instr.fill, hpl, hsz, ne_eq, not_true_eq_false, decide_false, Bool.false_or]
            rw [← hsz]
            simp only [hlt, decide_false, Bool.false_eq_true, if_false]
            rw [← hus]
            congr 1
            rw [← Array.foldl_toList, Array.toList_zipIdx]
            exact foldl_put off v.cells.toList 0 vs
          · cases hf
        · cases hf

theorem fill_parts {e : O → OD} (he : Evs e ev w F ρ N) {ps : Array (Nat × Operand)} (hok : ∀ x ∈ ps.toList, okO x.2 = true) :
    ((ps.toList.map fun p => (p.1, stO p.2)).map fun p => (p.1, e p.2)).length = (ps.map fun (p : Nat × Operand) => (p.1, ev p.2)).toList.length ∧
    ∀ (i : Nat) (p : Nat × OD) (q : Nat × Value), ((ps.toList.map fun p => (p.1, stO p.2)).map fun p => (p.1, e p.2))[i]? = some p → (ps.map fun (p : Nat × Operand) => (p.1, ev p.2)).toList[i]? = some q →
      p.1 = q.1 ∧ ∀ d, p.2 = some d → RepV w F ρ N d q.2 := by
  refine ⟨by simp, fun i p q hp hq => ?_⟩
  simp only [List.map_map, List.getElem?_map, Array.toList_map, Array.getElem?_toList] at hp hq
  cases hx : ps[i]? with
  | none => simp [hx] at hp
  | some x =>
    simp only [hx, Option.map_some, Option.some.injEq, Function.comp] at hp hq
    subst hp; subst hq
    exact ⟨rfl, fun d hd => he x.2 (hok x (List.mem_of_getElem? (by rw [Array.getElem?_toList]; exact hx))) d hd⟩

theorem Cells.ofV (z : Value) (hz : okV z = true) : Cells w F ρ N (cellsOf (ofV z)) z.cells := (repOf z hz).cells

theorem good_build (H : HOk w F ρ N h) {e : O → OD} (he : Evs e ev w F ρ N) {t : TypeId} {ps : Array (Nat × Operand)} {eff : Eff} (ho : o.op = .build t ps)
    (hok : ∀ x ∈ ps.toList, okO x.2 = true) (ha : valE (buildA (tiOf P) t ((ps.toList.map fun p => (p.1, stO p.2)).map fun p => (p.1, e p.2))) = some eff) : Good P o ev w F ρ N h nb eff := by
  refine Good.val H ha fun y hy => ?_
  obtain ⟨hl, hp⟩ := fill_parts he hok
  unfold buildA at hy
  split at hy
  · rename_i fs fl sz by_ wf z ht
    obtain ⟨i, u, zv, hi, hu, hz, hzk, e1⟩ := tiOf_inv ht
    simp only [TI.mk.injEq] at e1
    obtain ⟨fields, rfl, hfs, hall, _⟩ := tk_struct e1.1.symm
    simp only [Option.map_eq_some_iff] at hy
    obtain ⟨r, hr, rfl⟩ := hy
    rw [e1.2.2.2.2] at hr
    obtain ⟨us, hus, hcu⟩ := fill_ok _ _ _ r _ hl hp (Cells.ofV zv hzk) hr
    refine ⟨.agg us, ?_, .agg _ _ hcu.1 hcu.2⟩
    have hpl : fields.toList.mapM (fun f => (P.info? f.type).map fun i => (f.offset, i.size)) = some fs := by
      rw [hfs]
      simp only [Array.all_eq_true'] at hall
      have : ∀ (l : List Field), (∀ f ∈ l, (P.info? f.type).isSome = true) → l.mapM (fun f => (P.info? f.type).map fun i => (f.offset, i.size)) = some (l.map fun f => (f.offset, P.cellsOf f.type)) := by
        intro l
        induction l with
        | nil => intro _; rfl
        | cons f l ih =>
          intro hl'
          obtain ⟨j, hj⟩ := Option.isSome_iff_exists.1 (hl' f (by simp))
          simp [List.mapM_cons, hj, ih (fun g hg => hl' g (by simp [hg])), Program.cellsOf]
      exact this _ fun f hf => hall f (by simpa using hf)
    have hus' : Instr.fill (fun i => (fs.toArray)[i]?) zv.cells (ps.map fun (p : Nat × Operand) => (p.1, ev p.2)).toList = some us := by simpa using hus
    simp [execOp, ho, Instr.build, run_under hu, typeInfo, zeroValue, hi, hz, Array.mapM_eq_mapM_toList, run_places w _ _ hpl]
    simp at hus
    rw [hus]
    rfl
  · rename_i n el fl sz by_ wf z ht
    split at hy
    · rename_i ei hei
      obtain ⟨i, u, zv, hi, hu, hz, hzk, e1⟩ := tiOf_inv ht
      simp only [TI.mk.injEq] at e1
      obtain ⟨inf, hu', hinf, hsz⟩ := arr_inv ht hei
      simp only [Option.map_eq_some_iff] at hy
      obtain ⟨r, hr, rfl⟩ := hy
      rw [e1.2.2.2.2] at hr
      obtain ⟨us, hus, hcu⟩ := fill_ok _ _ _ r _ hl hp (Cells.ofV zv hzk) hr
      refine ⟨.agg us, ?_, .agg _ _ hcu.1 hcu.2⟩
      simp only [execOp, ho, Instr.build, Sem.run_bind, run_zero hi hz, Result.andThen_ok, run_under hu', run_size hinf, hsz]
      rw [hus]
      rfl
    · cases hy
  · cases hy

end
end Go.Fv
/- ABSTRACT VALUES AND STATES (6): operators, equality of flat aggregates among them; slices; lengths. -/
namespace Go.Fv

section
variable {P : Program} {o : Oper} {ev : Operand → Value} {w : World} {F : Nat → Prop} {ρ : Nat → Place} {N : Nat → Prop} {h : Nat → Option Blk} {nb : Nat}

theorem scalarT_inv {t : TypeId} (ht : scalarT P t = true) : ((∃ k, P.underlying t = some (.int k)) ∨ P.underlying t = some .bool) ∧ ∃ i, P.info? t = some i ∧ i.size = 1 := by
  unfold scalarT at ht
  simp only [Bool.and_eq_true, beq_iff_eq] at ht
  obtain ⟨h1, h2⟩ := ht
  refine ⟨?_, ?_⟩
  · cases hu : P.underlying t with
    | none => simp [hu] at h1
    | some u => cases u <;> simp [hu] at h1 <;> simp
  · cases hi : P.info? t with
    | none => simp [Program.cellsOf, hi] at h2
    | some i => exact ⟨i, rfl, by simpa [Program.cellsOf, hi] using h2⟩

theorem run_part_scalar {t : TypeId} {xs : Array Value} {off : Nat} {v : Value} (ht : scalarT P t = true) (hv : xs[off]? = some v) : (part t xs off).run P w = .ok v w := by
  obtain ⟨h1, _⟩ := scalarT_inv ht
  have : (isAgg t).run P w = .ok false w := by
    rcases h1 with ⟨k, h1⟩ | h1
    · exact run_isAgg h1 rfl
    · exact run_isAgg h1 rfl
  simp [part, this, hv]

/-- Two cells of a plain type are held against each other. -/
theorem run_equal_scalar {x y : DV} {b : Bool} {u v : Value} {t : TypeId} (d : Nat) (ht : scalarT P t = true) (kx : kindD (isBoolT P t) x = true) (ky : kindD (isBoolT P t) y = true)
    (hb : scEq x y = some b) (hx : RepV w F ρ N x u) (hy : RepV w F ρ N y v) : (Op.equalIn (d + 1) t u v).run P w = .ok b w := by
  obtain ⟨h1, _⟩ := scalarT_inv ht
  unfold scEq at hb
  split at hb
  · rename_i k a k' c
    split at hb
    · rename_i hk
      subst hk
      cases hb
      have hnb : isBoolT P t = false := by simpa [kindD] using kx
      rcases h1 with ⟨k', h1⟩ | h1
      · rw [hx.int_inv, hy.int_inv, run_equalIn_int w d t k k' a c h1]
        congr 1
      · simp [isBoolT, h1] at hnb
    · cases hb
  · rename_i a c
    cases hb
    have hnb : isBoolT P t = true := by simpa [kindD] using kx
    rcases h1 with ⟨k', h1⟩ | h1
    · simp [isBoolT, h1] at hnb
    · rw [hx.bool_inv, hy.bool_inv, run_equalIn_bool' w d t a c h1]
      cases a <;> cases c <;> rfl
  · cases hb

theorem kindsOk_len : ∀ {ks : List Bool} {ds : List DV}, kindsOk ks ds = true → ds.length = ks.length := by
  intro ks
  induction ks with
  | nil => intro ds h; cases ds <;> simp_all [kindsOk]
  | cons k ks ih => intro ds h; cases ds <;> simp_all [kindsOk]

theorem run_eqFields {d : Nat} {vs us : Array Value} : ∀ (fs : List Field) (i : Nat) (xs ys : List DV) (b : Bool),
    seqFrom i (fs.map fun f => (f.offset, P.cellsOf f.type)) = true → (∀ f ∈ fs, scalarT P f.type = true ∧ f.name ≠ "_") →
    kindsOk (fs.map fun f => isBoolT P f.type) xs = true → kindsOk (fs.map fun f => isBoolT P f.type) ys = true → lsEq xs ys = some b →
    (∀ (j : Nat) (x : DV), xs[j]? = some x → ∃ v, vs[i + j]? = some v ∧ RepV w F ρ N x v) → (∀ (j : Nat) (x : DV), ys[j]? = some x → ∃ v, us[i + j]? = some v ∧ RepV w F ρ N x v) →
    (Op.eqFields (d + 1) vs us fs).run P w = .ok b w := by
  intro fs
  induction fs with
  | nil =>
    intro i xs ys b _ _ kx ky hb _ _
    cases xs <;> simp [kindsOk] at kx
    cases ys <;> simp [kindsOk] at ky
    simp [lsEq] at hb
    subst hb
    simp [Op.eqFields]
  | cons f fs ih =>
    intro i xs ys b hs hf kx ky hb hx hy
    cases xs with
    | nil => simp [kindsOk] at kx
    | cons x xs =>
      cases ys with
      | nil => simp [kindsOk] at ky
      | cons y ys =>
        simp only [List.map_cons, seqFrom, kindsOk, Bool.and_eq_true, beq_iff_eq] at hs kx ky
        simp only [lsEq] at hb
        split at hb
        · rename_i p q hp hq
          cases hb
          obtain ⟨hsc, hnm⟩ := hf f (by simp)
          obtain ⟨v, hv, hrv⟩ := hx 0 x (by simp)
          obtain ⟨u, hu, hru⟩ := hy 0 y (by simp)
          have e1 := run_part_scalar (w := w) hsc (show vs[f.offset]? = some v by rw [hs.1.1]; exact hv)
          have e2 := run_part_scalar (w := w) hsc (show us[f.offset]? = some u by rw [hs.1.1]; exact hu)
          have e3 := run_equal_scalar d hsc kx.1 ky.1 hp hrv hru
          have e4 := ih (i + 1) xs ys q hs.2 (fun g hg => hf g (by simp [hg])) kx.2 ky.2 hq
            (fun j z hz => by rw [show i + 1 + j = i + (j + 1) from by omega]; exact hx (j + 1) z (by simpa using hz))
            (fun j z hz => by rw [show i + 1 + j = i + (j + 1) from by omega]; exact hy (j + 1) z (by simpa using hz))
          simp only [Op.eqFields, hnm, ne_eq, not_false_eq_true, if_true, Sem.run_bind, e1, e2, e3, Result.andThen_ok, Sem.run_ite, Sem.run_pure, e4]
          cases p <;> simp
        · cases hb

theorem run_eq_arr {t e : TypeId} {n d : Nat} {vs us : Array Value} {inf : TypeInfo} (hu : P.underlying t = some (.array n e)) (he : P.info? e = some inf) (h1 : inf.size = 1) (hsc : scalarT P e = true) :
    ∀ (xs ys : List DV) (b : Bool), kindsOk (List.replicate n (isBoolT P e)) xs = true → kindsOk (List.replicate n (isBoolT P e)) ys = true → lsEq xs ys = some b →
    (∀ (j : Nat) (x : DV), xs[j]? = some x → ∃ v, vs[j]? = some v ∧ RepV w F ρ N x v) → (∀ (j : Nat) (x : DV), ys[j]? = some x → ∃ v, us[j]? = some v ∧ RepV w F ρ N x v) →
    (Op.equalIn (d + 2) t (.agg vs) (.agg us)).run P w = .ok b w := by
  intro xs ys b kx ky hb hx hy
  rw [Op.equalIn]
  simp only [Sem.run_bind, run_under hu, Result.andThen_ok, run_size he, h1, Nat.mul_one]
  simp only [Std.Legacy.Range.forIn_eq_forIn_range', Std.Legacy.Range.size, Nat.sub_zero, Nat.add_one_sub_one, Nat.div_one]
  have lx := kindsOk_len kx
  have ly := kindsOk_len ky
  simp only [List.length_replicate] at lx ly
  have key : ∀ (m i : Nat) (xs' ys' : List DV) (b : Bool), kindsOk (List.replicate m (isBoolT P e)) xs' = true → kindsOk (List.replicate m (isBoolT P e)) ys' = true → lsEq xs' ys' = some b →
      (∀ (j : Nat) (x : DV), xs'[j]? = some x → ∃ v, vs[i + j]? = some v ∧ RepV w F ρ N x v) → (∀ (j : Nat) (x : DV), ys'[j]? = some x → ∃ v, us[i + j]? = some v ∧ RepV w F ρ N x v) →
      ((forIn (List.range' i m 1) (none, ()) fun i _ => do
          let a ← part e vs i
          let c ← part e us i
          let q ← Op.equalIn (d + 1) e a c
          if (!q) = true then pure (ForInStep.done (some false, ())) else pure (ForInStep.yield (none, ())) : Sem (Option Bool × Unit))).run P w =
        .ok (if b then none else some false, ()) w := by
    intro m
    induction m with
    | zero =>
      intro i xs' ys' b kx ky hb _ _
      cases xs' <;> simp [kindsOk] at kx
      cases ys' <;> simp [kindsOk] at ky
      simp [lsEq] at hb
      subst hb
      simp
    | succ m ih =>
      intro i xs' ys' b kx ky hb hx hy
      cases xs' with
      | nil => simp [kindsOk, List.replicate_succ] at kx
      | cons x xs' =>
        cases ys' with
        | nil => simp [kindsOk, List.replicate_succ] at ky
        | cons y ys' =>
          simp only [List.replicate_succ, kindsOk, Bool.and_eq_true] at kx ky
          simp only [lsEq] at hb
          split at hb
          · rename_i p q hp hq
            cases hb
            obtain ⟨v, hv, hrv⟩ := hx 0 x (by simp)
            obtain ⟨u, hu', hru⟩ := hy 0 y (by simp)
            have e1 := run_part_scalar (w := w) hsc (show vs[i]? = some v by simpa using hv)
            have e2 := run_part_scalar (w := w) hsc (show us[i]? = some u by simpa using hu')
            have e3 := run_equal_scalar d hsc kx.1 ky.1 hp hrv hru
            have e4 := ih (i + 1) xs' ys' q kx.2 ky.2 hq
              (fun j z hz => by rw [show i + 1 + j = i + (j + 1) from by omega]; exact hx (j + 1) z (by simpa using hz))
              (fun j z hz => by rw [show i + 1 + j = i + (j + 1) from by omega]; exact hy (j + 1) z (by simpa using hz))
            simp only [List.range'_succ, List.forIn_cons, Sem.run_bind, e1, e2, e3, Result.andThen_ok, Sem.run_ite, Sem.run_pure]
            cases p
            · simp
            · simp only [Bool.not_true, Bool.false_eq_true, if_false, Result.andThen_ok, Bool.true_and]
              exact e4
          · cases hb
  have := key n 0 xs ys b kx ky hb (fun j x hj => by rw [Nat.zero_add]; exact hx j x hj) (fun j x hj => by rw [Nat.zero_add]; exact hy j x hj)
  rw [this]
  cases b <;> rfl

theorem flatT_arr {t n e : Nat} {ti : TI} {ks : List Bool} {fl : Option (List Bool)} (ht : tiOf P t = some ti) (hk : ti.k = .arr n e fl) (hf : fl = some ks) :
    ∃ inf, P.underlying t = some (.array n e) ∧ P.info? e = some inf ∧ inf.size = 1 ∧ scalarT P e = true ∧ P.eqGuardType P.depth t = false ∧ ks = List.replicate n (isBoolT P e) := by
  obtain ⟨i, u, z, hi, hu, hz, hzk, e1⟩ := tiOf_inv ht
  subst e1
  obtain ⟨rfl, h2⟩ := tk_arr hk
  rw [hf] at h2
  split at h2
  · rename_i hc
    simp only [Bool.and_eq_true, Bool.not_eq_true'] at hc
    obtain ⟨_, inf, hinf, hsz⟩ := scalarT_inv hc.1
    exact ⟨inf, hu, hinf, hsz, hc.1, hc.2, Option.some.inj h2⟩
  · cases h2

theorem Cells.get {ds : List DV} {vs : Array Value} (hc : Cells w F ρ N ds vs) : ∀ (j : Nat) (x : DV), ds[j]? = some x → ∃ v, vs[j]? = some v ∧ RepV w F ρ N x v := by
  intro j x hj
  obtain ⟨hj', _⟩ := List.getElem?_eq_some_iff.1 hj
  have hl := hc.1
  have h3 : vs[j]? = some (vs[j]'(by omega)) := by simp [show j < vs.size from by omega]
  exact ⟨_, h3, hc.2 j x _ hj h3⟩

/-- Flat aggregates are held against each other. -/
theorem run_equal_flat {t d : Nat} {ti : TI} {ks : List Bool} {xs ys : List DV} {vs us : Array Value} {b : Bool} (ht : tiOf P t = some ti) (hf : flatT (some ti) = some ks)
    (kx : kindsOk ks xs = true) (ky : kindsOk ks ys = true) (hb : lsEq xs ys = some b) (hx : Cells w F ρ N xs vs) (hy : Cells w F ρ N ys us) :
    (Op.equalIn (d + 2) t (.agg vs) (.agg us)).run P w = .ok b w ∧ P.eqGuardType P.depth t = false := by
  obtain ⟨tk, sz, by_, wf, z⟩ := ti
  cases tk with
  | arr n e fl =>
    obtain ⟨inf, hu, hinf, hsz, hsc, hg, rfl⟩ := flatT_arr ht rfl hf
    exact ⟨run_eq_arr hu hinf hsz hsc xs ys b kx ky hb hx.get hy.get, hg⟩
  | struct fs fl =>
    obtain ⟨i, u, z', hi, hu, hz, hzk, e1⟩ := tiOf_inv ht
    simp only [TI.mk.injEq] at e1
    obtain ⟨fields, rfl, hfs, hall, hfl⟩ := tk_struct e1.1.symm
    simp only [flatT] at hf
    rw [hf] at hfl
    split at hfl
    · rename_i hc
      simp only [Bool.and_eq_true, Bool.not_eq_true'] at hc
      have hks := Option.some.inj hfl
      subst hks
      have hfo : P.fieldsOf t = fields := by simp [Program.fieldsOf, hu]
      have hu' : P.underlying t = some (.struct (P.fieldsOf t)) := by rw [hfo]; exact hu
      refine ⟨?_, hc.2⟩
      rw [run_equalIn_struct w (d + 1) t vs us hu' hc.1.2, hfo]
      refine run_eqFields fields.toList 0 xs ys b (by rw [← hfs]; exact hc.1.1.2) (fun f hf' => ?_) kx ky hb (fun j x hj => by rw [Nat.zero_add]; exact hx.get j x hj) (fun j x hj => by rw [Nat.zero_add]; exact hy.get j x hj)
      have := Array.all_eq_true_iff_forall_mem.1 hc.1.1.1 f (Array.mem_toList_iff.1 hf')
      simp only [Bool.and_eq_true, bne_iff_ne, ne_eq] at this
      exact this
    · cases hfl
  | _ => simp [flatT] at hf

theorem run_eqGuard_one {op : BinOp} {t : TypeId} {x y : Operand} {a b : Value} (h : (∀ cs, a ≠ .agg cs) ∧ a ≠ .nilIface) : (eqGuard op t x y a b).run P w = .ok () w := by
  unfold eqGuard
  cases op <;> first | rfl | skip
  all_goals
    cases a <;> first | rfl | (exact absurd rfl (h.1 _)) | (exact absurd rfl h.2)

theorem bool_tk {t : TypeId} {sz by_ : Nat} {wf : Bool} {z : DV} (ht : tiOf P t = some ⟨.bool, sz, by_, wf, z⟩) : P.underlying t = some .bool := by
  obtain ⟨i, u, z, hi, hu, hz, hzk, e1⟩ := tiOf_inv ht
  simp only [TI.mk.injEq] at e1
  rw [tk_bool e1.1.symm] at hu; exact hu
theorem slice_tk {t e : TypeId} {sz by_ : Nat} {wf : Bool} {z : DV} (ht : tiOf P t = some ⟨.slice e, sz, by_, wf, z⟩) : P.underlying t = some (.slice e) := by
  obtain ⟨i, u, z, hi, hu, hz, hzk, e1⟩ := tiOf_inv ht
  simp only [TI.mk.injEq] at e1
  rw [tk_slice e1.1.symm] at hu; exact hu
theorem map_tk {t k e : TypeId} {sz by_ : Nat} {wf : Bool} {z : DV} (ht : tiOf P t = some ⟨.map k e, sz, by_, wf, z⟩) : P.underlying t = some (.map k e) := by
  obtain ⟨i, u, z, hi, hu, hz, hzk, e1⟩ := tiOf_inv ht
  simp only [TI.mk.injEq] at e1
  rw [tk_map e1.1.symm] at hu; exact hu
theorem int_tk {t : TypeId} {k : IntKind} {sz by_ : Nat} {wf : Bool} {z : DV} (ht : tiOf P t = some ⟨.int k, sz, by_, wf, z⟩) : P.underlying t = some (.int k) := by
  obtain ⟨i, u, z, hi, hu, hz, hzk, e1⟩ := tiOf_inv ht
  simp only [TI.mk.injEq] at e1
  rw [tk_int e1.1.symm] at hu; exact hu

theorem intA_run {op : BinOp} {k : IntKind} {a b : Int} {d : DV} (h1 : op ≠ .shl) (h2 : op ≠ .shr) (hd : intA op k a b = some d) (t : TypeId) :
    ∃ v, (Go.binOp op t (.int k a) (.int k b)).run P w = .ok v w ∧ RepV w F ρ N d v := by
  have hb : ∀ {x : Bool} {p : Prop} [Decidable p], (x = true ↔ p) → x = decide p := fun h => by rw [Bool.eq_iff_iff]; simpa using h
  cases op with
  | shl => exact absurd rfl h1
  | shr => exact absurd rfl h2
  | add => cases hd; exact ⟨_, by simp [Go.binOp, Op.intArith], .int _ _⟩
  | sub => cases hd; exact ⟨_, by simp [Go.binOp, Op.intArith], .int _ _⟩
  | mul => cases hd; exact ⟨_, by simp [Go.binOp, Op.intArith], .int _ _⟩
  | quo =>
    simp only [intA] at hd
    split at hd
    · cases hd
    · rename_i h0; cases hd; exact ⟨_, by simp [Go.binOp, Op.intDiv, h0], .int _ _⟩
  | rem =>
    simp only [intA] at hd
    split at hd
    · cases hd
    · rename_i h0; cases hd; exact ⟨_, by simp [Go.binOp, Op.intDiv, h0], .int _ _⟩
  | and => cases hd; exact ⟨_, by simp only [Go.binOp, Op.intBits, ne_eq, not_true_eq_false, if_false, Sem.run_pure], .int _ _⟩
  | or => cases hd; exact ⟨_, by simp only [Go.binOp, Op.intBits, ne_eq, not_true_eq_false, if_false, Sem.run_pure], .int _ _⟩
  | xor => cases hd; exact ⟨_, by simp only [Go.binOp, Op.intBits, ne_eq, not_true_eq_false, if_false, Sem.run_pure], .int _ _⟩
  | andNot => cases hd; exact ⟨_, by simp only [Go.binOp, Op.intBits, ne_eq, not_true_eq_false, if_false, Sem.run_pure], .int _ _⟩
  | eql => cases hd; exact ⟨.bool (a == b), by simp [Go.binOp, Op.intCmp], by rw [← hb (x := a == b) (by simp)]; exact .bool _⟩
  | neq => cases hd; exact ⟨.bool (a != b), by simp [Go.binOp, Op.intCmp], by rw [← hb (x := a == b) (by simp)]; exact .bool _⟩
  | lss => cases hd; exact ⟨_, by simp only [Go.binOp, Op.intCmp, ne_eq, not_true_eq_false, if_false, Sem.run_pure], .bool _⟩
  | leq => cases hd; exact ⟨_, by simp only [Go.binOp, Op.intCmp, ne_eq, not_true_eq_false, if_false, Sem.run_pure], .bool _⟩
  | gtr => cases hd; exact ⟨_, by simp only [Go.binOp, Op.intCmp, ne_eq, not_true_eq_false, if_false, Sem.run_pure], .bool _⟩
  | geq => cases hd; exact ⟨_, by simp only [Go.binOp, Op.intCmp, ne_eq, not_true_eq_false, if_false, Sem.run_pure], .bool _⟩

theorem shA_run {op : BinOp} {k k' : IntKind} {a b : Int} {d : DV} (hop : op = .shl ∨ op = .shr) (hd : shA op k a b = some d) (t : TypeId) :
    ∃ v, (Go.binOp op t (.int k a) (.int k' b)).run P w = .ok v w ∧ RepV w F ρ N d v := by
  unfold shA at hd
  split at hd
  · cases hd
  · rename_i hb
    rcases hop with rfl | rfl
    · cases hd; exact ⟨_, by simp only [Go.binOp, Op.shift, hb, if_false]; rfl, .int _ _⟩
    · cases hd; exact ⟨_, by simp only [Go.binOp, Op.shift, hb, if_false]; rfl, .int _ _⟩

theorem run_equalIn_nilsl {t e : TypeId} (d : Nat) (ht : P.underlying t = some (.slice e)) : (Op.equalIn (d + 1) t (.slice none 0 0) (.slice none 0 0)).run P w = .ok true w := by
  rw [Op.equalIn]
  simp only [Sem.run_bind, run_under ht, Result.andThen_ok]
  rfl

theorem good_bin (H : HOk w F ρ N h) {e : O → OD} (he : Evs e ev w F ρ N) {op : BinOp} {t u : TypeId} {x y : Operand} {eff : Eff} (ho : o.op = .binOp op t x y u)
    (h1 : okO x = true) (h2 : okO y = true) (ha : valE (binA (tiOf P) op t (e (stO x)) (e (stO y))) = some eff) : Good P o ev w F ρ N h nb eff := by
  refine Good.val H ha fun d hd => ?_
  have fin : ∀ {v : Value}, (eqGuard op t x y (ev x) (ev y)).run P w = .ok () w → (Go.binOp op t (ev x) (ev y)).run P w = .ok v w → (execOp ev o).run P w = .ok (.value v) w := by
    intro v hg hr
    simp only [execOp, ho, Sem.run_bind, hg, Result.andThen_ok, hr, Sem.run_pure]
  unfold binA at hd
  split at hd
  · rename_i k a k' b hx hy
    have ex := (he x h1 _ hx).int_inv
    have ey := (he y h2 _ hy).int_inv
    have hg : (eqGuard op t x y (ev x) (ev y)).run P w = .ok () w := run_eqGuard_one ⟨by rw [ex]; simp, by rw [ex]; simp⟩
    split at hd
    · obtain ⟨v, hr, hv⟩ := shA_run (P := P) (w := w) (F := F) (ρ := ρ) (N := N) (k' := k') (.inl rfl) hd t
      exact ⟨v, fin hg (by rw [ex, ey]; exact hr), hv⟩
    · obtain ⟨v, hr, hv⟩ := shA_run (P := P) (w := w) (F := F) (ρ := ρ) (N := N) (k' := k') (.inr rfl) hd t
      exact ⟨v, fin hg (by rw [ex, ey]; exact hr), hv⟩
    · rename_i hn1 hn2
      split at hd
      · rename_i hk
        subst hk
        obtain ⟨v, hr, hv⟩ := intA_run (P := P) (w := w) (F := F) (ρ := ρ) (N := N) (fun e => hn1 e) (fun e => hn2 e) hd t
        exact ⟨v, fin hg (by rw [ex, ey]; exact hr), hv⟩
      · cases hd
  · rename_i a b hx hy
    have ex := (he x h1 _ hx).bool_inv
    have ey := (he y h2 _ hy).bool_inv
    have hg : (eqGuard op t x y (ev x) (ev y)).run P w = .ok () w := run_eqGuard_one ⟨by rw [ex]; simp, by rw [ex]; simp⟩
    split at hd
    · rename_i ht
      cases hd
      refine ⟨.bool (a == b), fin hg ?_, ?_⟩
      · rw [ex, ey]; simp only [Go.binOp, Op.equal, Op.maxDepth, Sem.run_bind, run_equalIn_bool' w 9999 t a b (bool_tk ht), Result.andThen_ok, Sem.run_pure]
      · have : decide (a = b) = (a == b) := by rw [Bool.eq_iff_iff]; simp
        rw [this]; exact .bool _
    · rename_i ht
      cases hd
      refine ⟨.bool (!(a == b)), fin hg ?_, ?_⟩
      · rw [ex, ey]; simp only [Go.binOp, Op.equal, Op.maxDepth, Sem.run_bind, run_equalIn_bool' w 9999 t a b (bool_tk ht), Result.andThen_ok, Sem.run_pure]
      · have : decide (a = b) = (a == b) := by rw [Bool.eq_iff_iff]; simp
        rw [this]; exact .bool _
    · cases hd
  · rename_i a b hx hy
    obtain ⟨vs, ex, hl1, hr1⟩ := (he x h1 _ hx).agg_inv
    obtain ⟨us, ey, hl2, hr2⟩ := (he y h2 _ hy).agg_inv
    unfold eqA at hd
    split at hd
    · rename_i ks hks
      split at hd
      · rename_i hkk
        simp only [Bool.and_eq_true] at hkk
        cases ht : tiOf P t with
        | none => simp [ht, flatT] at hks
        | some ti =>
          rw [ht] at hks
          split at hd
          · rename_i q hq
            cases hd
            obtain ⟨hr, hgt⟩ := run_equal_flat (d := 9998) ht hks hkk.1 hkk.2 hq ⟨hl1, hr1⟩ ⟨hl2, hr2⟩
            refine ⟨.bool q, fin (by rw [ex, ey]; exact run_eqGuard_agg w .eql t x y vs us hgt) ?_, .bool _⟩
            rw [ex, ey, run_eql_struct, hr]; rfl
          · rename_i q hq
            cases hd
            obtain ⟨hr, hgt⟩ := run_equal_flat (d := 9998) ht hks hkk.1 hkk.2 hq ⟨hl1, hr1⟩ ⟨hl2, hr2⟩
            refine ⟨.bool (!q), fin (by rw [ex, ey]; exact run_eqGuard_agg w .neq t x y vs us hgt) ?_, .bool _⟩
            rw [ex, ey, run_neq_struct, hr]; rfl
          · cases hd
      · cases hd
    · cases hd
  · rename_i hx hy
    have ex := (he x h1 _ hx).nilsl_inv
    have ey := (he y h2 _ hy).nilsl_inv
    have hg : (eqGuard op t x y (ev x) (ev y)).run P w = .ok () w := run_eqGuard_one ⟨by rw [ex]; simp, by rw [ex]; simp⟩
    split at hd
    · rename_i ht
      cases hd
      refine ⟨.bool true, fin hg ?_, .bool _⟩
      rw [ex, ey]; simp only [Go.binOp, Op.equal, Op.maxDepth, Sem.run_bind, run_equalIn_nilsl 9999 (slice_tk ht), Result.andThen_ok, Sem.run_pure]
    · rename_i ht
      cases hd
      refine ⟨.bool false, fin hg ?_, .bool _⟩
      rw [ex, ey]; simp only [Go.binOp, Op.equal, Op.maxDepth, Sem.run_bind, run_equalIn_nilsl 9999 (slice_tk ht), Result.andThen_ok, Sem.run_pure, Bool.not_true]
    · cases hd
  · cases hd

end
end Go.Fv
/- ABSTRACT VALUES AND STATES (7): slices, lengths. -/
namespace Go.Fv

section
variable {P : Program} {o : Oper} {ev : Operand → Value} {w : World} {F : Nat → Prop} {ρ : Nat → Place} {N : Nat → Prop} {h : Nat → Option Blk} {nb : Nat}

theorem bound_inv {e : O → OD} (he : Evs e ev w F ρ N) {x : Option Operand} (hx : ∀ y, x = some y → okO y = true) {df n : Nat} (hb : bnd ((x.map stO).map e) df = some n) :
    (x = none ∧ n = df) ∨ (∃ y k, x = some y ∧ ev y = .int k (n : Int)) := by
  cases x with
  | none => simp [bnd] at hb; exact .inl ⟨rfl, hb.symm⟩
  | some y =>
    refine .inr ⟨y, ?_⟩
    simp only [Option.map_some] at hb
    unfold bnd at hb
    split at hb
    · rename_i hy; cases hy
    · rename_i k j hy
      split at hb
      · rename_i h0
        have := (he y (hx y rfl) _ (Option.some.inj hy)).int_inv
        cases hb
        exact ⟨k, rfl, by rw [this]; congr; omega⟩
      · cases hb
    · cases hb

theorem run_sliceBound {k : IntKind} {n y : Nat} {c : BoundsCode} (h : n ≤ y) : (Instr.sliceBound (.int k (n : Int)) y c).run P w = .ok n w := by
  have h1 : (0 : Int) ≤ (n : Int) := by omega
  have h2 : (n : Int) ≤ (y : Int) := by omega
  simp only [Instr.sliceBound, asIntOf, Sem.run_bind, Sem.run_pure, Result.andThen_ok, h1, h2, and_self, if_true, Int.toNat_natCast]

theorem run_sliceBounds {lo hi mx : Option Operand} {len cap l hh m df : Nat}
    (hlo : (lo = none ∧ l = 0) ∨ (∃ y k, lo = some y ∧ ev y = .int k (l : Int)))
    (hhi : (hi = none ∧ hh = len) ∨ (∃ y k, hi = some y ∧ ev y = .int k (hh : Int)))
    (hmx : (mx = none ∧ m = df) ∨ (∃ y k, mx = some y ∧ ev y = .int k (m : Int)))
    (hlh : l ≤ hh) (hhm : hh ≤ m) (hml : m ≤ len) (hcap : len ≤ cap) (hmh : mx.isSome = true → hi.isSome = true) :
    (Instr.sliceBounds true len cap (lo.map ev) (hi.map ev) (mx.map ev)).run P w = .ok (l, hh, if mx.isSome then m else cap) w := by
  unfold Instr.sliceBounds
  rcases hmx with ⟨rfl, rfl⟩ | ⟨ym, km, rfl, em⟩ <;> rcases hhi with ⟨rfl, rfl⟩ | ⟨yh, kh, rfl, eh⟩ <;> rcases hlo with ⟨rfl, rfl⟩ | ⟨yl, kl, rfl, el⟩
  all_goals first | (simp at hmh; done) | skip
  all_goals
    simp only [Option.map_none, Option.map_some, Sem.run_bind, Sem.run_pure, Result.andThen_ok, if_true, Option.isSome_none, Option.isSome_some, Bool.false_eq_true, if_false]
    try rw [em]
    try rw [eh]
    try rw [el]
    try (rw [run_sliceBound (show m ≤ cap from by omega)]; simp only [Result.andThen_ok])
    try (rw [run_sliceBound (show hh ≤ m from by omega)]; simp only [Result.andThen_ok])
    try (rw [run_sliceBound (show hh ≤ cap from by omega)]; simp only [Result.andThen_ok])
    try (rw [run_sliceBound (show l ≤ hh from by omega)]; simp only [Result.andThen_ok])

theorem good_slice (H : HOk w F ρ N h) {e : O → OD} (he : Evs e ev w F ρ N) {t : TypeId} {x : Operand} {lo hi mx : Option Operand} {eff : Eff} (ho : o.op = .slice t x lo hi mx)
    (h1 : okO x = true) (hlo : ∀ y, lo = some y → okO y = true) (hhi : ∀ y, hi = some y → okO y = true) (hmx : ∀ y, mx = some y → okO y = true)
    (ha : valE (sliceA (tiOf P) t (e (stO x)) ((lo.map stO).map e) ((hi.map stO).map e) ((mx.map stO).map e)) = some eff) : Good P o ev w F ρ N h nb eff := by
  refine Good.val H ha fun y hy => ?_
  unfold sliceA at hy
  split at hy
  · rename_i k b s n hx
    split at hy
    · rename_i hes
      split at hy
      · rename_i l hh m hl hh' hm
        split at hy
        · rename_i hc
          cases hy
          obtain ⟨el, inf, hu, hinf, hsz⟩ := elSize_inv hes
          have bl := bound_inv he hlo hl
          have bh := bound_inv he hhi hh'
          have bm := bound_inv he hmx hm
          have hmm : mx.isSome = true → hi.isSome = true := by simpa using hc.2.2.2
          obtain ⟨hN, hk, hmL, ⟨hv, rfl, rfl, hval⟩ | ⟨hv, i', cap, cs, ty, hval, hn, hii, hblk, hsize⟩⟩ := (he x h1 _ hx).sl_inv
          · have hb := run_sliceBounds (P := P) (w := w) (ev := ev) (len := 0) (cap := 0) bl bh bm hc.1 hc.2.1 hc.2.2.1 (Nat.le_refl _) hmm
            have hl0 : l = 0 := by omega
            have hh0 : hh = 0 := by omega
            have hm0 : m = 0 := by omega
            subst hl0; subst hh0; subst hm0
            refine ⟨.slice none 0 0, ?_, ?_⟩
            · simp only [execOp, ho, hval, Instr.sliceAt, Instr.slice, Sem.run_bind, run_under hu, Result.andThen_ok, hb, run_size hinf, Sem.run_pure]
              cases mx <;> rfl
            · exact .slv k b hN hk hv
          · have hb := run_sliceBounds (P := P) (w := w) (ev := ev) (len := n) (cap := cap) bl bh bm hc.1 hc.2.1 hc.2.2.1 hn hmm
            let m' := if mx.isSome then m else cap
            have hm' : hh ≤ m' ∧ m' ≤ cap := by
              show hh ≤ (if mx.isSome then m else cap) ∧ (if mx.isSome then m else cap) ≤ cap
              split <;> omega
            refine ⟨.slice (some (if m' = l then adr (ρ b).blk ((ρ b).off + i' * k) else (adr (ρ b).blk ((ρ b).off + i' * k)).add (l * inf.size))) (hh - l) (m' - l), ?_, ?_⟩
            · simp only [execOp, ho, hval, Instr.sliceAt, Instr.slice, Sem.run_bind, run_under hu, Result.andThen_ok, hb, run_size hinf, Sem.run_pure, Option.map_some]
              have : (if m' = l then some (adr (ρ b).blk ((ρ b).off + i' * k)) else some ((adr (ρ b).blk ((ρ b).off + i' * k)).add (l * inf.size))) =
                some (if m' = l then adr (ρ b).blk ((ρ b).off + i' * k) else (adr (ρ b).blk ((ρ b).off + i' * k)).add (l * inf.size)) := by split <;> rfl
              rw [← this]
            · have hsz2 : (ρ b).off + (s + l + (m' - l)) * k ≤ cs.size := by
                have : (s + l + (m' - l)) * k ≤ (s + cap) * k := Nat.mul_le_mul_right k (by omega)
                omega
              by_cases hml : m' = l
              · rw [if_pos hml]
                exact .sl k b (s + l) (hh - l) i' (m' - l) hN hk hv (by omega) (by omega) (.inr ⟨by omega, by omega, by omega⟩) cs ty hblk hsz2
              · rw [if_neg hml, addr_add]
                have hi2 : i' = s := by omega
                subst hi2
                have e2 : (ρ b).off + i' * k + l * inf.size = (ρ b).off + (i' + l) * k := by rw [hsz, Nat.add_mul, Nat.add_assoc]
                rw [e2]
                exact .sl k b (i' + l) (hh - l) (i' + l) (m' - l) hN hk hv (by omega) (by omega) (.inl rfl) cs ty hblk hsz2
        · cases hy
      · cases hy
    · cases hy
  · rename_i k rows hx
    split at hy
    · rename_i hes
      split at hy
      · rename_i l hh m hl hh' hm
        split at hy
        · rename_i hc
          cases hy
          obtain ⟨el, inf, hu, hinf, hsz⟩ := elSize_inv hes
          have bl := bound_inv he hlo hl
          have bh := bound_inv he hhi hh'
          have bm := bound_inv he hmx hm
          have hmm : mx.isSome = true → hi.isSome = true := by simpa using hc.2.2.2
          obtain ⟨hmL, hk, ⟨rfl, hval⟩ | ⟨a, c, cap, vals, hval, hF, hcap, hcell, hr⟩⟩ := (he x h1 _ hx).fz_inv
          · have hb := run_sliceBounds (P := P) (w := w) (ev := ev) (len := 0) (cap := 0) bl bh bm hc.1 hc.2.1 hc.2.2.1 (Nat.le_refl _) hmm
            simp only [List.length_nil] at hc
            have hl0 : l = 0 := by omega
            have hh0 : hh = 0 := by omega
            have hm0 : m = 0 := by omega
            subst hl0; subst hh0; subst hm0
            refine ⟨.slice none 0 0, ?_, ?_⟩
            · simp only [execOp, ho, hval, Instr.sliceAt, Instr.slice, Sem.run_bind, run_under hu, Result.andThen_ok, hb, run_size hinf, Sem.run_pure]
              cases mx <;> rfl
            · simpa using RepV.fznil k
          · have hb := run_sliceBounds (P := P) (w := w) (ev := ev) (len := rows.length) (cap := cap) bl bh bm hc.1 hc.2.1 hc.2.2.1 hcap hmm
            let m' := if mx.isSome then m else cap
            have hm' : hh ≤ m' ∧ m' ≤ cap := by
              show hh ≤ (if mx.isSome then m else cap) ∧ (if mx.isSome then m else cap) ≤ cap
              split <;> omega
            have hlen : ((rows.take hh).drop l).length = hh - l := by simp; omega
            have hkk : ∀ r ∈ (rows.take hh).drop l, r.length = k := fun r hr' => hk r (List.mem_of_mem_take (List.mem_of_mem_drop hr'))
            have hgetr : ∀ (i : Nat) (r : List DV), ((rows.take hh).drop l)[i]? = some r → rows[l + i]? = some r := by
              intro i r hi
              rw [List.getElem?_drop, List.getElem?_take] at hi
              split at hi
              · exact hi
              · cases hi
            refine ⟨.slice (some (if m' = l then adr a c else (adr a c).add (l * inf.size))) (hh - l) (m' - l), ?_, ?_⟩
            · simp only [execOp, ho, hval, Instr.sliceAt, Instr.slice, Sem.run_bind, run_under hu, Result.andThen_ok, hb, run_size hinf, Sem.run_pure, Option.map_some]
              have : (if m' = l then some (adr a c) else some ((adr a c).add (l * inf.size))) = some (if m' = l then adr a c else (adr a c).add (l * inf.size)) := by split <;> rfl
              rw [← this]
            · by_cases hml : m' = l
              · rw [if_pos hml]
                have h0 : (rows.take hh).drop l = [] := List.length_eq_zero_iff.1 (by omega)
                rw [h0, show hh - l = ([] : List (List DV)).length from by simp; omega]
                exact .fz k [] a c (m' - l) (fun _ _ => undef) hF (Nat.zero_le _) (Nat.zero_le _) (by simp) (by simp) (by simp)
              · rw [if_neg hml, addr_add, ← hlen]
                refine .fz k _ a (c + l * inf.size) (m' - l) (fun i j => vals (l + i) j) hF (by omega) (by omega) hkk ?_ ?_
                · intro i j hi hj
                  have := hcell (l + i) j (by omega) hj
                  rw [hsz, show c + l * k + i * k + j = c + (l + i) * k + j from by rw [Nat.add_mul]; omega]
                  exact this
                · intro i j r d hi hd
                  exact hr (l + i) j r d (hgetr i r hi) hd
        · cases hy
      · cases hy
    · cases hy
  · rename_i hx
    split at hy
    · rename_i hes
      split at hy
      · rename_i l hh m hl hh' hm
        split at hy
        · rename_i hc
          cases hy
          obtain ⟨k, hk⟩ := Option.isSome_iff_exists.1 hes
          obtain ⟨el, inf, hu, hinf, hsz⟩ := elSize_inv hk
          have bl := bound_inv he hlo hl
          have bh := bound_inv he hhi hh'
          have bm := bound_inv he hmx hm
          have hmm : mx.isSome = true → hi.isSome = true := by simpa using hc.2.2.2
          have hval := (he x h1 _ hx).nilsl_inv
          have hb := run_sliceBounds (P := P) (w := w) (ev := ev) (len := 0) (cap := 0) bl bh bm (by omega) (by omega) (by omega) (Nat.le_refl _) hmm
          have hl0 : l = 0 := by omega
          have hh0 : hh = 0 := by omega
          have hm0 : m = 0 := by omega
          subst hl0; subst hh0; subst hm0
          refine ⟨.slice none 0 0, ?_, .nilsl⟩
          simp only [execOp, ho, hval, Instr.sliceAt, Instr.slice, Sem.run_bind, run_under hu, Result.andThen_ok, hb, run_size hinf, Sem.run_pure]
          cases mx <;> rfl
        · cases hy
      · cases hy
    · cases hy
  · cases hy

theorem good_len (H : HOk w F ρ N h) {e : O → OD} (he : Evs e ev w F ρ N) {c : Call} {t : TypeId} {x : Operand} {eff : Eff} (ho : o.op = .call c) (hc : c.callee = .builtin .len)
    (hargs : c.args.toList = [x]) (htys : c.argTypes.toList = [t]) (h1 : okO x = true) (ha : valE (lenA (tiOf P) h t (e (stO x))) = some eff) : Good P o ev w F ρ N h nb eff := by
  refine Good.val H ha fun d hd => ?_
  have ha' : c.args = #[x] := by apply Array.toList_inj.1; simpa using hargs
  have ht' : c.argTypes = #[t] := by apply Array.toList_inj.1; simpa using htys
  have fin : ∀ {n : Nat}, (Builtin.len_ #[t] o.type #[ev x]).run P w = .ok (.int .i64 (n : Int)) w → ∃ v, (execOp ev o).run P w = .ok (.value v) w ∧ RepV w F ρ N (.int .i64 (n : Int)) v := by
    intro n hr
    refine ⟨_, ?_, .int _ _⟩
    simp only [execOp, ho, resolve, hc, ha', ht', Sem.run_bind, Sem.run_pure, Result.andThen_ok, invoke, builtin]
    simp [hr]
  unfold lenA at hd
  split at hd
  · rename_i k b s n hx
    split at hd
    · rename_i ht
      cases hd
      refine fin ?_
      obtain ⟨_, _, _, ⟨_, _, rfl, hval⟩ | ⟨_, i', cap, cs, ty, hval, _⟩⟩ := (he x h1 _ hx).sl_inv
      · rw [hval]; simp [Builtin.len_, run_under (slice_tk ht), goInt]
      · rw [hval]; simp [Builtin.len_, run_under (slice_tk ht), goInt]
    · cases hd
  · rename_i k rows hx
    split at hd
    · rename_i ht
      cases hd
      refine fin ?_
      obtain ⟨_, _, ⟨rfl, hval⟩ | ⟨a, c', cap, vals, hval, _⟩⟩ := (he x h1 _ hx).fz_inv
      · rw [hval]; simp [Builtin.len_, run_under (slice_tk ht), goInt]
      · rw [hval]; simp [Builtin.len_, run_under (slice_tk ht), goInt]
    · cases hd
  · rename_i hx
    split at hd
    · rename_i ht
      cases hd
      refine fin (n := 0) ?_
      rw [(he x h1 _ hx).nilsl_inv]; simp [Builtin.len_, run_under (slice_tk ht), goInt]
    · cases hd
  · rename_i b hx
    split at hd
    · rename_i es _ _ _ _ _ _ hb ht
      cases hd
      refine fin ?_
      obtain ⟨hval, _⟩ := (he x h1 _ hx).mp_inv
      obtain ⟨_, _, en, ck, hblk, hsz, _⟩ := H.ok b _ hb
      rw [hval]
      simp [Builtin.len_, run_under (map_tk ht), getObj, Sem.run, hblk, goInt, hsz]
    · cases hd
  · cases hd

theorem good_cap (H : HOk w F ρ N h) {e : O → OD} (he : Evs e ev w F ρ N) {c : Call} {t : TypeId} {x : Operand} {eff : Eff} (ho : o.op = .call c) (hc : c.callee = .builtin .cap)
    (hargs : c.args.toList = [x]) (htys : c.argTypes.toList = [t]) (h1 : okO x = true) (ha : valE (capA (tiOf P) t (e (stO x))) = some eff) : Good P o ev w F ρ N h nb eff := by
  refine Good.val H ha fun d hd => ?_
  have ha' : c.args = #[x] := by apply Array.toList_inj.1; simpa using hargs
  have ht' : c.argTypes = #[t] := by apply Array.toList_inj.1; simpa using htys
  unfold capA at hd
  split at hd
  · rename_i hx
    split at hd
    · rename_i ht
      cases hd
      have hr : (Builtin.cap_ #[t] o.type #[ev x]).run P w = .ok (.int .i64 (0 : Int)) w := by
        rw [(he x h1 _ hx).nilsl_inv]; simp [Builtin.cap_, run_under (slice_tk ht), goInt]
      refine ⟨_, ?_, .int _ _⟩
      simp only [execOp, ho, resolve, hc, ha', ht', Sem.run_bind, Sem.run_pure, Result.andThen_ok, invoke, builtin]
      simp [hr]
    · cases hd
  · cases hd

end
end Go.Fv
/- ABSTRACT VALUES AND STATES (8): new blocks, and stores into own ones. -/
namespace Go.Fv

/-- Rows of cells lie in an array. -/
def RowsAt (w : World) (F : Nat → Prop) (ρ : Nat → Place) (N : Nat → Prop) (cs : Array Value) (off k : Nat) (rs : List (List DV)) : Prop :=
  ∀ (i j : Nat) (r : List DV) (d : DV), rs[i]? = some r → r[j]? = some d → ∃ v, cs[off + i * k + j]? = some v ∧ v.oneCell' = true ∧ RepV w F ρ N d v

/-- Values in a row are rows of cells. -/
def Flat (w : World) (F : Nat → Prop) (ρ : Nat → Place) (N : Nat → Prop) (vs : List Value) (k : Nat) (rs : List (List DV)) : Prop :=
  vs.length = rs.length * k ∧ (∀ v ∈ vs, v.oneCell' = true) ∧ (∀ r ∈ rs, r.length = k) ∧
  ∀ (i j : Nat) (r : List DV) (d : DV), rs[i]? = some r → r[j]? = some d → ∃ v, vs[i * k + j]? = some v ∧ RepV w F ρ N d v

section
variable {P : Program} {o : Oper} {ev : Operand → Value} {w : World} {F : Nat → Prop} {ρ : Nat → Place} {N : Nat → Prop} {h : Nat → Option Blk} {nb : Nat}

theorem over_get {rs new : List (List DV)} {s : Nat} (hl : s + new.length ≤ rs.length) (i : Nat) :
    (over rs s new)[i]? = if s ≤ i ∧ i < s + new.length then new[i - s]? else rs[i]? := by
  unfold over
  have h1 : (rs.take s).length = s := by simp; omega
  by_cases h2 : i < s
  · rw [if_neg (by omega), List.append_assoc, List.getElem?_append_left (by omega), List.getElem?_take, if_pos h2]
  · by_cases h3 : i < s + new.length
    · rw [if_pos (by omega), List.append_assoc, List.getElem?_append_right (by omega), h1, List.getElem?_append_left (by omega)]
    · rw [if_neg (by omega), List.getElem?_append_right (by simp; omega)]
      simp only [List.length_append, h1, List.getElem?_drop]
      congr 1; omega

theorem over_length {rs new : List (List DV)} {s : Nat} (hl : s + new.length ≤ rs.length) : (over rs s new).length = rs.length := by
  unfold over; simp; omega

theorem over_mem {rs new : List (List DV)} {s k : Nat} (h1 : ∀ r ∈ rs, r.length = k) (h2 : ∀ r ∈ new, r.length = k) : ∀ r ∈ over rs s new, r.length = k := by
  intro r hr
  unfold over at hr
  simp only [List.append_assoc, List.mem_append] at hr
  rcases hr with hr | hr | hr
  · exact h1 r (List.mem_of_mem_take hr)
  · exact h2 r hr
  · exact h1 r (List.mem_of_mem_drop hr)

/-- Where a cell of a row lies. -/
theorem row_range {k i j s m : Nat} (hj : j < k) : (s * k ≤ i * k + j ∧ i * k + j < s * k + m * k) ↔ (s ≤ i ∧ i < s + m) := by
  constructor
  · rintro ⟨h1, h2⟩
    constructor
    · rcases Nat.lt_or_ge i s with h3 | h3
      · have : (i + 1) * k ≤ s * k := Nat.mul_le_mul_right k h3
        rw [Nat.add_mul] at this; omega
      · exact h3
    · rcases Nat.lt_or_ge i (s + m) with h3 | h3
      · exact h3
      · have : (s + m) * k ≤ i * k := Nat.mul_le_mul_right k h3
        rw [Nat.add_mul] at this; omega
  · rintro ⟨h1, h2⟩
    have a1 : s * k ≤ i * k := Nat.mul_le_mul_right k h1
    have a2 : (i + 1) * k ≤ (s + m) * k := Nat.mul_le_mul_right k h2
    rw [Nat.add_mul, Nat.add_mul] at a2
    omega

theorem RowsAt.put {cs : Array Value} {off k s : Nat} {rs new : List (List DV)} {vs : List Value} (hr : RowsAt w F ρ N cs off k rs) (hk : ∀ r ∈ rs, r.length = k)
    (hsz : off + rs.length * k ≤ cs.size) (hl : s + new.length ≤ rs.length) (hv : Flat w F ρ N vs k new) : RowsAt w F ρ N (putArr cs (off + s * k) vs) off k (over rs s new) := by
  intro i j r d hi hj
  have hjk : j < k := by
    have := over_mem hk hv.2.2.1 r (List.mem_of_getElem? hi)
    have := (List.getElem?_eq_some_iff.1 hj).1
    omega
  rw [over_get hl] at hi
  have hfit : off + s * k + vs.length ≤ cs.size := by
    have : (s + new.length) * k ≤ rs.length * k := Nat.mul_le_mul_right k hl
    rw [Nat.add_mul] at this
    have := hv.1
    omega
  rw [putArr_get _ _ _ _ hfit, hv.1]
  have hrg := row_range (i := i) (s := s) (m := new.length) hjk
  by_cases hc : s ≤ i ∧ i < s + new.length
  · rw [if_pos hc] at hi
    rw [if_pos (by have := hrg.2 hc; omega)]
    obtain ⟨v, h1, h2⟩ := hv.2.2.2 (i - s) j r d hi hj
    have e1 : off + i * k + j - (off + s * k) = (i - s) * k + j := by
      rw [Nat.sub_mul]
      have : s * k ≤ i * k := Nat.mul_le_mul_right k hc.1
      omega
    rw [e1]
    exact ⟨v, h1, hv.2.1 v (List.mem_of_getElem? h1), h2⟩
  · rw [if_neg hc] at hi
    rw [if_neg (by intro h3; exact hc (hrg.1 (by omega)))]
    exact hr i j r d hi hj

/-- A new row of cells. -/
theorem Tr.newRows (H : HOk w F ρ N h) (hnb : ¬ N nb) {cs : Array Value} {ty : TypeId} {k : Nat} {rs : List (List DV)} (hk : ∀ r ∈ rs, r.length = k) (hsz : rs.length * k ≤ cs.size)
    (hr : RowsAt w F ρ N cs 0 k rs) :
    Tr w F ρ N h (newB w (.cells cs ty)) F (rhoAt ρ nb ⟨w.heap.size, 0, k, false⟩) (Nn N nb) (updB h [(nb, some (.rows k rs))]) := by
  have hme : rhoAt ρ nb ⟨w.heap.size, 0, k, false⟩ nb = ⟨w.heap.size, 0, k, false⟩ := by simp [rhoAt]
  refine Tr.new H hnb ⟨by rw [hme], hk, .inr ⟨by rw [hme], cs, ty, by rw [hme]; exact newB_new, by rw [hme]; simpa using hsz, ?_⟩⟩
  intro i j r d h1 h2
  obtain ⟨v, h3, h4, h5⟩ := hr i j r d h1 h2
  refine ⟨v, by rw [hme]; exact h3, h4, h5.mono (Ev_newB _) (fun a ha => ⟨ha, newB_old (H.fr a ha).1⟩) (fun n hn => ⟨.inl hn, ?_⟩)⟩
  unfold rhoAt; rw [if_neg]; rintro rfl; exact hnb hn

theorem rep_new_ptr {w' : World} {p : Place} (hp : p.vir = false) (hk : p.off = 0) : RepV w' F (rhoAt ρ nb p) (Nn N nb) (.ptr nb 0 0) (.pointer (some (adr p.blk 0))) := by
  have hme : rhoAt ρ nb p nb = p := by simp [rhoAt]
  have := RepV.ptr (w := w') (F := F) (ρ := rhoAt ρ nb p) (N := Nn N nb) nb 0 0 (.inr rfl) (by rw [hme]; exact hp)
  rw [hme, hk] at this
  simpa using this

theorem Cells.rowsAt {ds : List DV} {vs : Array Value} (hc : Cells w F ρ N ds vs) (hd : ds.all cellD = true) : RowsAt w F ρ N vs 0 ds.length [ds] := by
  intro i j r d hi hj
  cases i with
  | zero =>
    simp at hi
    subst hi
    obtain ⟨v, h1, h2⟩ := hc.get j d hj
    refine ⟨v, by simpa using h1, h2.oneCell ?_, h2⟩
    exact List.all_eq_true.1 hd d (List.mem_of_getElem? hj)
  | succ i => simp at hi

theorem good_alloc (H : HOk w F ρ N h) (hnb : ¬ N nb) {t : TypeId} {eff : Eff} (ho : o.op = .alloc t) (ha : allocA (tiOf P t) nb = some eff) : Good P o ev w F ρ N h nb eff := by
  unfold allocA at ha
  split at ha
  · rename_i ti ht
    split at ha
    · rename_i hc
      cases ha
      obtain ⟨i, u, z, hi, hu, hz, hzk, e1⟩ := tiOf_inv ht
      subst e1
      simp only at hc ⊢
      have hc := wfZ_inv hc
      have hcz := Cells.ofV (w := w) (F := F) (ρ := ρ) (N := N) z hzk
      have hrun : (execOp ev o).run P w = .ok (.value (.pointer (some (adr w.heap.size 0)))) (newB w (.cells z.cells t)) := by
        simp only [execOp, ho, Instr.alloc, Sem.run_bind, run_zero hi hz, Result.andThen_ok, newVar, newRow, run_newObj, Sem.run_pure]
        rfl
      refine ⟨_, _, _, hrun, Tr.newRows H hnb (rs := [cellsOf (ofV z)]) (k := i.size) (by simpa using hc.1) (by rw [← hc.1, hcz.1]; simp) (by rw [← hc.1]; exact hcz.rowsAt hc.2.1), .inl ⟨_, rfl, fun d hd => ?_⟩⟩
      cases hd
      exact rep_new_ptr (p := ⟨w.heap.size, 0, i.size, false⟩) rfl rfl
    · cases ha
  · cases ha

theorem good_box (H : HOk w F ρ N h) (hnb : ¬ N nb) {e : O → OD} (he : Evs e ev w F ρ N) {t : TypeId} {x : Operand} {eff : Eff} (ho : o.op = .box t x)
    (h1 : okO x = true) (ha : boxA nb (e (stO x)) = some eff) : Good P o ev w F ρ N h nb eff := by
  unfold boxA at ha
  split at ha
  · rename_i d hx
    split at ha
    · rename_i hc
      cases ha
      have hcz := (he x h1 _ hx).cells
      have hrun : (execOp ev o).run P w = .ok (.value (.pointer (some (adr w.heap.size 0)))) (newB w (.cells (ev x).cells t)) := by
        simp only [execOp, ho, Instr.box, Sem.run_bind, newVar, newRow, run_newObj, Result.andThen_ok, Sem.run_pure]
        rfl
      refine ⟨_, _, _, hrun, Tr.newRows H hnb (rs := [cellsOf d]) (k := (cellsOf d).length) (by simp) (by rw [hcz.1]; simp) (Cells.rowsAt hcz hc), .inl ⟨_, rfl, fun d' hd => ?_⟩⟩
      cases hd
      exact rep_new_ptr (p := ⟨w.heap.size, 0, (cellsOf d).length, false⟩) rfl rfl
    · cases ha
  · cases ha

theorem good_mkmap (H : HOk w F ρ N h) (hnb : ¬ N nb) {t : TypeId} (ho : o.op = .makeMap t none) : Good P o ev w F ρ N h nb ⟨some (.mp nb), [(nb, some (.map []))]⟩ := by
  have hme : rhoAt ρ nb ⟨w.heap.size, 0, 0, false⟩ nb = ⟨w.heap.size, 0, 0, false⟩ := by simp [rhoAt]
  have hrun : (execOp ev o).run P w = .ok (.value (.map (some w.heap.size))) (newB w (.map #[] 0)) := by
    simp only [execOp, ho, Option.map_none, Instr.makeMap, Sem.run_bind, Sem.run_pure, Result.andThen_ok, run_newObj]
    rfl
  refine ⟨_, _, _, hrun, Tr.new (k := 0) H hnb ⟨by rw [hme], #[], 0, by rw [hme]; exact newB_new, rfl, by simp⟩, .inl ⟨_, rfl, fun d hd => ?_⟩⟩
  cases hd
  have := RepV.mp (w := newB w (.map #[] 0)) (F := F) (ρ := rhoAt ρ nb ⟨w.heap.size, 0, 0, false⟩) (N := Nn N nb) nb (.inr rfl)
  rw [hme] at this
  exact this

theorem good_store (H : HOk w F ρ N h) {e : O → OD} (he : Evs e ev w F ρ N) {t : TypeId} {a x : Operand} {eff : Eff} (ho : o.op = .store t a x)
    (h1 : okO a = true) (h2 : okO x = true) (ha : storeA (tiOf P t) h (e (stO a)) (e (stO x)) = some eff) : Good P o ev w F ρ N h nb eff := by
  unfold storeA at ha
  split at ha
  · rename_i b r c d hea hex
    split at ha
    · rename_i k rs ti hb ht
      split at ha
      · rename_i row hrow
        split at ha
        · rename_i hc
          cases ha
          obtain ⟨i, u, z, hi, hu, hz, hzk, e1⟩ := tiOf_inv ht
          subst e1
          simp only at hc
          obtain ⟨hval, hN, hvir⟩ := (he a h1 _ hea).ptr_inv
          have hcx := (he x h2 _ hex).cells
          obtain ⟨_, hkk, hrs, ⟨hv, _⟩ | ⟨_, cs, ty, hblk, hsz, hd⟩⟩ := H.ok b _ hb
          · rw [hvir] at hv; cases hv
          · have hlenr : row.length = k := hrs row (List.mem_of_getElem? hrow)
            have hrl := (List.getElem?_eq_some_iff.1 hrow).1
            have hfit : (ρ b).off + r * k + c + (ev x).cells.size ≤ cs.size := by
              have : (r + 1) * k ≤ rs.length * k := Nat.mul_le_mul_right k hrl
              rw [Nat.add_mul] at this
              omega
            have hone : ∀ v ∈ (ev x).cells.toList, v.oneCell' = true := by
              intro v hv
              obtain ⟨j, hj⟩ := List.mem_iff_getElem?.1 hv
              rw [Array.getElem?_toList] at hj
              have hj' := (Array.getElem?_eq_some_iff.1 hj).1
              have hjd : (cellsOf d)[j]? = some ((cellsOf d)[j]'(by omega)) := by simp [show j < (cellsOf d).length from by omega]
              refine (hcx.2 j _ v hjd hj).oneCell ?_
              exact List.all_eq_true.1 hc.2.2 _ (List.mem_of_getElem? hjd)
            have hrun0 := run_storeCells (P := P) (ρ b).blk ((ρ b).off + r * k + c) ty (ev x).cells.toList 0 w cs hblk (by simpa using hfit) hone
            have hrun : (execOp ev o).run P w = .ok .skip (setB w (ρ b).blk (.cells (putArr cs ((ρ b).off + r * k + c) (ev x).cells.toList) ty (0, 0))) := by
              have hszx : (ev x).cells.size = i.size := by rw [← hcx.1]; exact hc.1
              simp only [execOp, ho, hval, Instr.storeAt, Instr.sureAddr, Sem.run_bind, Sem.run_pure, Result.andThen_ok, storeVar, run_size hi, hszx, ne_eq, not_true_eq_false, if_false, hkk]
              rw [hrun0]
              rfl
            have hE := Ev_setB (cs' := putArr cs ((ρ b).off + r * k + c) (ev x).cells.toList) hblk (by simp)
            refine ⟨_, _, ρ, hrun, Tr.put H nb hb hvir hE ⟨hkk, ?_, .inr ⟨hvir, _, ty, setB_same (lt_of_block hblk), by simpa using hsz, ?_⟩⟩, .inr ⟨rfl, rfl⟩⟩
            · intro r' hr'
              rcases List.mem_or_eq_of_mem_set hr' with h3 | h3
              · exact hrs r' h3
              · rw [h3, length_putCells]; exact hlenr
            · intro i' j r' d' hi' hj'
              have mono : ∀ {y : DV} {v : Value}, RepV w F ρ N y v → RepV (setB w (ρ b).blk (.cells (putArr cs ((ρ b).off + r * k + c) (ev x).cells.toList) ty (0, 0))) F ρ N y v :=
                fun hy => hy.mono hE (fun q hq => ⟨hq, setB_ne ((H.fr q hq).2 b _ hb hvir)⟩) (fun n hn => ⟨hn, rfl⟩)
              rw [putArr_get _ _ _ _ (by simpa using hfit)]
              simp only [Array.length_toList]
              by_cases hir : i' = r
              · subst hir
                rw [List.getElem?_set_self hrl] at hi'
                cases hi'
                rw [putCells_get _ _ _ _ (by omega)] at hj'
                by_cases hjc : c ≤ j ∧ j < c + (cellsOf d).length
                · rw [if_pos hjc] at hj'
                  rw [if_pos (by omega)]
                  have hv3 : (ev x).cells[j - c]? = some ((ev x).cells[j - c]'(by omega)) := by simp [show j - c < (ev x).cells.size from by omega]
                  refine ⟨_, ?_, ?_, mono (hcx.2 _ _ _ hj' hv3)⟩
                  · rw [show (ρ b).off + i' * k + j - ((ρ b).off + i' * k + c) = j - c from by omega, Array.getElem?_toList]; exact hv3
                  · exact hone _ (by rw [Array.mem_toList_iff]; exact Array.getElem_mem _)
                · rw [if_neg hjc] at hj'
                  rw [if_neg (by omega)]
                  obtain ⟨v, h3, h4, h5⟩ := hd i' j row d' hrow hj'
                  exact ⟨v, h3, h4, mono h5⟩
              · rw [List.getElem?_set_ne (fun e => hir e.symm)] at hi'
                obtain ⟨v, h3, h4, h5⟩ := hd i' j r' d' hi' hj'
                have hjk : j < k := by
                  have := hrs r' (List.mem_of_getElem? hi')
                  have := (List.getElem?_eq_some_iff.1 hj').1
                  omega
                have hne : ¬ ((ρ b).off + r * k + c ≤ (ρ b).off + i' * k + j ∧ (ρ b).off + i' * k + j < (ρ b).off + r * k + c + (ev x).cells.size) := by
                  intro h6
                  have := (row_range (k := k) (i := i') (j := j) (s := r) (m := 1) hjk).1 (by omega)
                  omega
                rw [if_neg hne]
                exact ⟨v, h3, h4, mono h5⟩
        · cases ha
      · cases ha
    · cases ha
  · cases ha

end
end Go.Fv
/- ABSTRACT VALUES AND STATES (9): rows that are made, appended to, copied, cleared. -/
namespace Go.Fv

section
variable {P : Program} {o : Oper} {ev : Operand → Value} {w : World} {F : Nat → Prop} {ρ : Nat → Place} {N : Nat → Prop} {h : Nat → Option Blk} {nb : Nat}

theorem Flat.rowsAt {vs : List Value} {k : Nat} {rs : List (List DV)} (hf : Flat w F ρ N vs k rs) (post : Array Value) : RowsAt w F ρ N (vs.toArray ++ post) 0 k rs := by
  intro i j r d hi hj
  obtain ⟨v, h1, h2⟩ := hf.2.2.2 i j r d hi hj
  refine ⟨v, ?_, hf.2.1 v (List.mem_of_getElem? h1), h2⟩
  rw [Nat.zero_add, Array.getElem?_append_left (by simpa using (List.getElem?_eq_some_iff.1 h1).1)]
  simpa using h1

theorem Flat.append {vs us : List Value} {k : Nat} {rs qs : List (List DV)} (h1 : Flat w F ρ N vs k rs) (h2 : Flat w F ρ N us k qs) : Flat w F ρ N (vs ++ us) k (rs ++ qs) := by
  refine ⟨by rw [List.length_append, List.length_append, h1.1, h2.1, Nat.add_mul], ?_, ?_, ?_⟩
  · intro v hv
    rcases List.mem_append.1 hv with hv | hv
    · exact h1.2.1 v hv
    · exact h2.2.1 v hv
  · intro r hr
    rcases List.mem_append.1 hr with hr | hr
    · exact h1.2.2.1 r hr
    · exact h2.2.2.1 r hr
  · intro i j r d hi hj
    by_cases hc : i < rs.length
    · rw [List.getElem?_append_left hc] at hi
      obtain ⟨v, h3, h4⟩ := h1.2.2.2 i j r d hi hj
      exact ⟨v, by rw [List.getElem?_append_left (List.getElem?_eq_some_iff.1 h3).1]; exact h3, h4⟩
    · rw [List.getElem?_append_right (by omega)] at hi
      obtain ⟨v, h3, h4⟩ := h2.2.2.2 (i - rs.length) j r d hi hj
      refine ⟨v, ?_, h4⟩
      have : rs.length * k ≤ i * k := Nat.mul_le_mul_right k (by omega)
      rw [List.getElem?_append_right (by rw [h1.1]; omega), h1.1, ← h3, Nat.sub_mul]
      congr 1
      omega

theorem Flat.nil (k : Nat) : Flat w F ρ N [] k [] := ⟨by simp, by simp, by simp, by simp⟩

theorem Flat.take {vs : List Value} {k m : Nat} {rs : List (List DV)} (h1 : Flat w F ρ N vs k rs) (hm : m ≤ rs.length) : Flat w F ρ N (vs.take (m * k)) k (rs.take m) := by
  have hmk : m * k ≤ rs.length * k := Nat.mul_le_mul_right k hm
  refine ⟨by rw [List.length_take, List.length_take, h1.1, Nat.min_eq_left hmk, Nat.min_eq_left hm], fun v hv => h1.2.1 v (List.mem_of_mem_take hv), fun r hr => h1.2.2.1 r (List.mem_of_mem_take hr), ?_⟩
  intro i j r d hi hj
  rw [List.getElem?_take] at hi
  split at hi
  · rename_i him
    obtain ⟨v, h3, h4⟩ := h1.2.2.2 i j r d hi hj
    refine ⟨v, ?_, h4⟩
    have hjk : j < k := by
      have := h1.2.2.1 r (List.mem_of_getElem? hi)
      have := (List.getElem?_eq_some_iff.1 hj).1
      omega
    have : (i + 1) * k ≤ m * k := Nat.mul_le_mul_right k him
    rw [Nat.add_mul] at this
    rw [List.getElem?_take, if_pos (by omega)]
    exact h3
  · cases hi

theorem Flat.mono {w' : World} {ρ' : Nat → Place} {N' : Nat → Prop} {vs : List Value} {k : Nat} {rs : List (List DV)} (h1 : Flat w F ρ N vs k rs)
    (hm : ∀ {d : DV} {v : Value}, RepV w F ρ N d v → RepV w' F ρ' N' d v) : Flat w' F ρ' N' vs k rs :=
  ⟨h1.1, h1.2.1, h1.2.2.1, fun i j r d hi hj => let ⟨v, h3, h4⟩ := h1.2.2.2 i j r d hi hj; ⟨v, h3, hm h4⟩⟩

/-- A row of one kind of cells. -/
theorem flat_zero {z : Value} (hz : okV z = true) {k : Nat} (hk : (cellsOf (ofV z)).length = k) (h0 : 0 < k) (hd : (cellsOf (ofV z)).all cellD = true) (n : Nat) :
    Flat w F ρ N ((List.range (n * k)).map fun i => z.cells[i % z.cells.size]!) k (List.replicate n (cellsOf (ofV z))) := by
  have hc := Cells.ofV (w := w) (F := F) (ρ := ρ) (N := N) z hz
  have hsz : z.cells.size = k := by rw [← hc.1]; exact hk
  refine ⟨by simp, ?_, ?_, ?_⟩
  · intro v hv
    obtain ⟨i, _, rfl⟩ := List.mem_map.1 hv
    have hlt : i % z.cells.size < z.cells.size := Nat.mod_lt _ (by omega)
    have h3 : z.cells[i % z.cells.size]? = some (z.cells[i % z.cells.size]!) := by simp [hlt]
    have h4 : (cellsOf (ofV z))[i % z.cells.size]? = some ((cellsOf (ofV z))[i % z.cells.size]'(by omega)) := by simp [show i % z.cells.size < (cellsOf (ofV z)).length from by omega]
    exact (hc.2 _ _ _ h4 h3).oneCell (List.all_eq_true.1 hd _ (List.mem_of_getElem? h4))
  · intro r hr
    rw [(List.mem_replicate.1 hr).2]; exact hk
  · intro i j r d hi hj
    rw [List.getElem?_replicate] at hi
    split at hi
    · rename_i hin
      cases hi
      have hjk : j < k := by have := (List.getElem?_eq_some_iff.1 hj).1; omega
      have hlt : i * k + j < n * k := by
        have : (i + 1) * k ≤ n * k := Nat.mul_le_mul_right k hin
        rw [Nat.add_mul] at this; omega
      have hmod : (i * k + j) % z.cells.size = j := by rw [hsz, Nat.mul_comm, Nat.mul_add_mod, Nat.mod_eq_of_lt hjk]
      refine ⟨z.cells[j]!, by simp [hlt, hmod], ?_⟩
      exact hc.2 j d _ hj (by simp [show j < z.cells.size from by omega])
    · cases hi

theorem rep_new_sl {p : Place} {w' : World} {cs : Array Value} {ty : TypeId} {k n cap : Nat} (hp : p.vir = false) (hk : p.k = k) (hn : n ≤ cap) (hm : n ≤ maxL)
    (hb : w'.heap[p.blk]? = some (.cells cs ty (0, 0))) (hs : p.off + cap * k ≤ cs.size) :
    RepV w' F (rhoAt ρ nb p) (Nn N nb) (.sl k nb 0 n) (.slice (some (adr p.blk p.off)) n cap) := by
  have hme : rhoAt ρ nb p nb = p := by simp [rhoAt]
  have := RepV.sl (w := w') (F := F) (ρ := rhoAt ρ nb p) (N := Nn N nb) k nb 0 n 0 cap (.inr rfl) (by rw [hme]; exact hk) (by rw [hme]; exact hp) hn hm (.inl rfl) cs ty (by rw [hme]; exact hb)
    (by rw [hme]; simpa using hs)
  rw [hme] at this
  simpa using this

theorem setRows_ok : ∀ (ps : List (Nat × OD)) (qs : List (Nat × Value)) (rs r : List (List DV)) (vs : Array Value) (k : Nat),
    ps.length = qs.length → (∀ (i : Nat) (p : Nat × OD) (q : Nat × Value), ps[i]? = some p → qs[i]? = some q → p.1 = q.1 ∧ ∀ d, p.2 = some d → RepV w F ρ N d q.2) →
    (∀ r ∈ rs, r.length = k) → vs.size = rs.length * k → RowsAt w F ρ N vs 0 k rs → setRows rs ps = some r →
    ∃ us, Instr.fill (fun i => some (i * k, k)) vs qs = some us ∧ us.size = vs.size ∧ r.length = rs.length ∧ (∀ x ∈ r, x.length = k) ∧ RowsAt w F ρ N us 0 k r := by
  intro ps
  induction ps with
  | nil =>
    intro qs rs r vs k hl _ hk hsz hr hs
    cases qs with
    | nil => simp only [setRows, Option.some.injEq] at hs; subst hs; exact ⟨vs, rfl, rfl, rfl, hk, hr⟩
    | cons q qs => simp at hl
  | cons p ps ih =>
    intro qs rs r vs k hl hp hk hsz hr hs
    cases qs with
    | nil => simp at hl
    | cons q qs =>
      obtain ⟨i, x⟩ := p
      obtain ⟨i', v⟩ := q
      obtain ⟨hii, hv⟩ := hp 0 (i, x) (i', v) rfl rfl
      simp only at hii
      subst hii
      cases x with
      | none => simp [setRows] at hs
      | some x =>
        have hrep := hv x rfl
        simp only [setRows] at hs
        split at hs
        · rename_i hc
          have hcl := hrep.cells
          simp only at hcl
          have hrow : (rs.getD i []).length = k := by
            have : rs.getD i [] = rs[i]'hc.2.1 := by simp [hc.2.1]
            rw [this]; exact hk _ (List.getElem_mem _)
          have hvk : v.cells.size = k := by omega
          have hfit : i * k + v.cells.size ≤ vs.size := by
            have : (i + 1) * k ≤ rs.length * k := Nat.mul_le_mul_right k hc.2.1
            rw [Nat.add_mul] at this
            omega
          have hflat : Flat w F ρ N v.cells.toList k [cellsOf x] := by
            refine ⟨by simp [hvk], ?_, by simp; omega, ?_⟩
            · intro u hu
              obtain ⟨j, hj⟩ := List.mem_iff_getElem?.1 hu
              rw [Array.getElem?_toList] at hj
              have hj' := (Array.getElem?_eq_some_iff.1 hj).1
              have hjd : (cellsOf x)[j]? = some ((cellsOf x)[j]'(by omega)) := by simp [show j < (cellsOf x).length from by omega]
              exact (hcl.2 j _ u hjd hj).oneCell (List.all_eq_true.1 hc.2.2 _ (List.mem_of_getElem? hjd))
            · intro a b r' d ha hb
              cases a with
              | zero =>
                simp at ha; subst ha
                have hb' := (List.getElem?_eq_some_iff.1 hb).1
                have hvb : v.cells[b]? = some (v.cells[b]'(by omega)) := by simp [show b < v.cells.size from by omega]
                exact ⟨_, by rw [Nat.zero_mul, Nat.zero_add, Array.getElem?_toList]; exact hvb, hcl.2 b d _ hb hvb⟩
              | succ a => simp at ha
          have hput := hr.put hk (by omega) (show i + [cellsOf x].length ≤ rs.length from by simp; omega) hflat
          have hover : over rs i [cellsOf x] = rs.set i (cellsOf x) := by
            apply List.ext_getElem?
            intro j
            rw [over_get (by simp; omega)]
            by_cases hij : i = j
            · subst hij; simp [hc.2.1]
            · rw [List.getElem?_set_ne hij, if_neg (by simp; omega)]
          rw [hover, Nat.zero_add] at hput
          obtain ⟨us, h1, h2, h3, h4, h5⟩ := ih qs (rs.set i (cellsOf x)) r (putArr vs (i * k) v.cells.toList) k (by simpa using hl)
            (fun j p q hpj hqj => hp (j + 1) p q (by simpa using hpj) (by simpa using hqj))
            (fun r' hr' => by
              rcases List.mem_or_eq_of_mem_set hr' with h3 | h3
              · exact hk r' h3
              · rw [h3]; omega)
            (by simp [hsz]) hput hs
          refine ⟨us, ?_, by rw [h2]; simp, by rw [h3]; simp, h4, h5⟩
          have hlt : ¬ (i * k + v.cells.size > vs.size) := by omega
          simp only [Instr.fill, hvk, ne_eq, not_true_eq_false, decide_false, Bool.false_or]
          rw [← hvk] at hlt ⊢
          simp only [hlt, decide_false, Bool.false_eq_true, if_false]
          rw [hvk, ← h1]
          congr 1
          rw [← Array.foldl_toList, Array.toList_zipIdx]
          exact foldl_put (i * k) v.cells.toList 0 vs
        · cases hs

theorem zmap0 (z : Array Value) : ((Array.range 0).map fun j => z[j % z.size]!) = #[] := by simp

theorem good_bsl (H : HOk w F ρ N h) (hnb : ¬ N nb) {e : O → OD} (he : Evs e ev w F ρ N) {t : TypeId} {n : Nat} {ps : Array (Nat × Operand)} {eff : Eff} (ho : o.op = .buildSlice t n ps)
    (hok : ∀ x ∈ ps.toList, okO x.2 = true) (ha : bslA (tiOf P) t n nb ((ps.toList.map fun p => (p.1, stO p.2)).map fun p => (p.1, e p.2)) = some eff) : Good P o ev w F ρ N h nb eff := by
  obtain ⟨hl, hp⟩ := fill_parts he hok
  unfold bslA at ha
  split at ha
  · rename_i ei hei
    obtain ⟨el, i, u, z, hu, hi, hue, hz, hzk, rfl⟩ := elTI_inv hei
    simp only at ha
    split at ha
    · rename_i hc
      split at ha
      · rename_i rs hrs
        cases ha
        obtain ⟨hwf, hle⟩ := hc
        obtain ⟨hcl, hcd, h0, _⟩ := wfZ_inv hwf
        have hfz := flat_zero (w := w) (F := F) (ρ := ρ) (N := N) hzk hcl h0 hcd n
        have hra := hfz.rowsAt #[]
        obtain ⟨us, h1, h2, h3, h4, h5⟩ := setRows_ok _ _ _ rs _ i.size hl hp hfz.2.2.1 (by simp) hra hrs
        have hlen : rs.length = n := by rw [h3]; simp
        have hus : us.size = n * i.size := by rw [h2]; simp
        have hzero : ((List.range (n * i.size)).map fun j => z.cells[j % z.cells.size]!).toArray ++ #[] = (Array.range (n * i.size)).map fun j => z.cells[j % z.cells.size]! := by
          apply Array.toList_inj.1; simp
        rw [hzero] at h1
        have hrun : (execOp ev o).run P w = .ok (.value (.slice (some (adr w.heap.size 0)) n n)) (newB w (.cells us el)) := by
          have hrl : ¬ (n * i.size > 2 ^ 24) := by omega
          simp only [execOp, ho, Instr.buildSlice, Sem.run_bind, run_under hu, Result.andThen_ok, run_size hi, hrl, if_false]
          by_cases hn0 : n * i.size = 0
          · have hnz : n = 0 := by
              rcases Nat.eq_zero_or_pos n with h6 | h6
              · exact h6
              · have := Nat.mul_pos h6 h0; omega
            subst hnz
            rw [Nat.zero_mul, zmap0] at h1
            simp only [Nat.zero_mul, if_true, Sem.run_bind, Sem.run_pure, Result.andThen_ok, zmap0, h1, newRow, run_newObj]
            rfl
          · simp only [hn0, if_false, Sem.run_bind, run_zero hi hz, Sem.run_pure, Result.andThen_ok]
            simp only [h1, Sem.run_bind, newRow, run_newObj, Result.andThen_ok, Sem.run_pure]
            rfl
        refine ⟨_, _, _, hrun, Tr.newRows H hnb h4 (by rw [hlen, hus]; exact Nat.le_refl _) h5, .inl ⟨_, rfl, fun d hd => ?_⟩⟩
        cases hd
        refine rep_new_sl (p := ⟨w.heap.size, 0, i.size, false⟩) rfl rfl (Nat.le_refl _) ?_ newB_new (by simp [hus])
        have : n ≤ n * i.size := Nat.le_mul_of_pos_right n h0
        unfold maxL; omega
      · cases ha
    · cases ha
  · cases ha

theorem good_mksl (H : HOk w F ρ N h) (hnb : ¬ N nb) {e : O → OD} (he : Evs e ev w F ρ N) {t : TypeId} {l c : Operand} {eff : Eff} (ho : o.op = .makeSlice t l c)
    (h1 : okO l = true) (h2 : okO c = true) (ha : mkslA (tiOf P) t nb (e (stO l)) (e (stO c)) = some eff) : Good P o ev w F ρ N h nb eff := by
  unfold mkslA at ha
  split at ha
  · rename_i li ci hl hc'
    split at ha
    · rename_i ei hei
      obtain ⟨el, i, u, z, hu, hi, hue, hz, hzk, rfl⟩ := elTI_inv hei
      simp only at ha
      split at ha
      · rename_i hc
        obtain ⟨rfl, hwf⟩ := hc
        obtain ⟨hcl, hcd, h0, hby⟩ := wfZ_inv hwf
        split at ha
        · rename_i hb
          cases ha
          obtain ⟨hb0, hb1⟩ := hb
          obtain ⟨n, rfl⟩ : ∃ n : Nat, li = (n : Int) := ⟨li.toNat, by omega⟩
          have hn : (n : Int) ≤ 281474976710656 := by
            have : (n : Int) * 1 ≤ (n : Int) * i.bytes := Int.mul_le_mul_of_nonneg_left (by omega) hb0
            omega
          have hwr : IntKind.i64.wrap (n : Int) = n := wrap_i64 (by omega) (by omega)
          have hfz := flat_zero (w := w) (F := F) (ρ := ρ) (N := N) hzk hcl h0 hcd n
          have hra := hfz.rowsAt #[]
          have hzero : ((List.range (n * i.size)).map fun j => z.cells[j % z.cells.size]!).toArray ++ #[] = (Array.range (n * i.size)).map fun j => z.cells[j % z.cells.size]! := by
            apply Array.toList_inj.1; simp
          rw [hzero] at hra
          have hrun : (execOp ev o).run P w = .ok (.value (.slice (some (adr w.heap.size 0)) n n)) (newB w (.cells ((Array.range (n * i.size)).map fun j => z.cells[j % z.cells.size]!) el)) := by
            have hl1 := (he l h1 _ hl).int_inv
            have hl2 := (he c h2 _ hc').int_inv
            have ht : ¬ ((i.bytes : Int) * (n : Int) > 2 ^ 48) := by rw [Int.mul_comm]; omega
            have hlt : ¬ ((n : Int) < 0) := by omega
            simp only [execOp, ho, hl1, hl2, Instr.makeSlice, Sem.run_bind, run_under hu, Result.andThen_ok, asInt, asIntOf, Sem.run_pure, run_info hi, hwr]
            simp only [ht, hlt, decide_false, Bool.or_self, Int.lt_irrefl, gt_iff_lt, Bool.false_eq_true, if_false, Sem.run_bind, run_askRoom, Result.andThen_ok, Int.toNat_natCast, run_size hi]
            by_cases hn0 : n * i.size = 0
            · simp only [hn0, if_true, Sem.run_pure, Result.andThen_ok, zmap0, newRow, Sem.run_bind, run_newObj]
              rfl
            · simp only [hn0, if_false, Sem.run_bind, run_zero hi hz, Sem.run_pure, Result.andThen_ok, newRow, run_newObj]
              rfl
          rw [Int.toNat_natCast]
          refine ⟨_, _, _, hrun, Tr.newRows H hnb hfz.2.2.1 (by simp) hra, .inl ⟨_, rfl, fun d hd => ?_⟩⟩
          cases hd
          exact rep_new_sl (p := ⟨w.heap.size, 0, i.size, false⟩) rfl rfl (Nat.le_refl _) (by unfold maxL; omega) newB_new (by simp)
        · cases ha
      · cases ha
    · cases ha
  · cases ha

end
end Go.Fv
/- ABSTRACT VALUES AND STATES (10): append, copy, clear. -/
namespace Go.Fv

section
variable {P : Program} {o : Oper} {ev : Operand → Value} {w : World} {F : Nat → Prop} {ρ : Nat → Place} {N : Nat → Prop} {h : Nat → Option Blk} {nb : Nat}

theorem divmod_lt {q m k : Nat} (hq : q < m * k) : 0 < k ∧ q / k < m ∧ q % k < k ∧ q / k * k + q % k = q := by
  have hk : 0 < k := by
    rcases Nat.eq_zero_or_pos k with h0 | h0
    · subst h0; omega
    · exact h0
  refine ⟨hk, (Nat.div_lt_iff_lt_mul hk).2 hq, Nat.mod_lt _ hk, ?_⟩
  have := Nat.div_add_mod q k
  rw [Nat.mul_comm] at this
  exact this

/-- Cells of the world that hold rows, read in a row. -/
theorem read_rows {a o k m : Nat} {rs : List (List DV)} (hk : ∀ r ∈ rs, r.length = k) (hm : m ≤ rs.length)
    (hc : ∀ (i j : Nat) (r : List DV) (d : DV), rs[i]? = some r → r[j]? = some d → ∃ v, w.cell? (adr a (o + i * k + j)) = some v ∧ v.oneCell' = true ∧ RepV w F ρ N d v) :
    ∃ vs : List Value, (loadCells (adr a o) (m * k)).run P w = .ok vs.toArray w ∧ Flat w F ρ N vs k (rs.take m) := by
  have each : ∀ q, q < m * k → ∃ (r : List DV) (d : DV) (v : Value), rs[q / k]? = some r ∧ r[q % k]? = some d ∧ w.cell? (adr a (o + q)) = some v ∧ v.oneCell' = true ∧ RepV w F ρ N d v := by
    intro q hq
    obtain ⟨h0, h1, h2, h3⟩ := divmod_lt hq
    have hi : q / k < rs.length := by omega
    have hr : rs[q / k]? = some rs[q / k] := by simp [hi]
    have hl : rs[q / k].length = k := hk _ (List.getElem_mem hi)
    have hd : rs[q / k][q % k]? = some (rs[q / k][q % k]'(by omega)) := by simp [show q % k < rs[q / k].length from by omega]
    obtain ⟨v, h4, h5, h6⟩ := hc _ _ _ _ hr hd
    rw [show o + q / k * k + q % k = o + q from by omega] at h4
    exact ⟨_, _, v, hr, hd, h4, h5, h6⟩
  let vals : Nat → Value := fun q => (w.cell? (adr a (o + q))).getD undef
  have hvals : ∀ q, q < m * k → w.cell? (adr a (o + q)) = some (vals q) := by
    intro q hq
    obtain ⟨_, _, v, _, _, h4, _⟩ := each q hq
    show _ = some ((w.cell? (adr a (o + q))).getD undef)
    rw [h4]; rfl
  refine ⟨(List.range (m * k)).map vals, run_loadCells a o (m * k) vals hvals, ?_, ?_, ?_, ?_⟩
  · simp [Nat.min_eq_left hm]
  · intro v hv
    obtain ⟨q, hq, rfl⟩ := List.mem_map.1 hv
    obtain ⟨_, _, u, _, _, h4, h5, _⟩ := each q (List.mem_range.1 hq)
    have := hvals q (List.mem_range.1 hq)
    rw [h4] at this
    rw [← Option.some.inj this]; exact h5
  · intro r hr; exact hk r (List.mem_of_mem_take hr)
  · intro i j r d hi hj
    rw [List.getElem?_take] at hi
    split at hi
    · rename_i him
      obtain ⟨v, h4, h5, h6⟩ := hc i j r d hi hj
      have hjk : j < k := by
        have := hk r (List.mem_of_getElem? hi)
        have := (List.getElem?_eq_some_iff.1 hj).1
        omega
      have hlt : i * k + j < m * k := by
        have : (i + 1) * k ≤ m * k := Nat.mul_le_mul_right k him
        rw [Nat.add_mul] at this; omega
      refine ⟨v, ?_, h6⟩
      have h7 := hvals (i * k + j) hlt
      rw [← Nat.add_assoc, h4] at h7
      simp [hlt, Option.some.inj h7]
    · cases hi

theorem rowsOf_sl {k k' b s n : Nat} {new : List (List DV)} (hy : rowsOf h k (some (.sl k' b s n)) = some new) :
    ∃ rs, h b = some (.rows k rs) ∧ k' = k ∧ s + n ≤ rs.length ∧ new = (rs.drop s).take n := by
  unfold rowsOf at hy
  simp only at hy
  split at hy
  · rename_i k'' rs hb
    split at hy
    · rename_i hc
      cases hy
      obtain ⟨rfl, rfl, hle⟩ := hc
      exact ⟨rs, hb, rfl, hle, rfl⟩
    · cases hy
  · cases hy

/-- An own slice's rows, read. -/
theorem own_read (H : HOk w F ρ N h) {k b s n : Nat} {rs : List (List DV)} {v : Value} (hb : h b = some (.rows k rs)) (hle : s + n ≤ rs.length) (hv : RepV w F ρ N (.sl k b s n) v) (m : Nat) (hm : m ≤ n) :
    ∃ vs : List Value, (Builtin.firstCells k m v).run P w = .ok vs.toArray w ∧ Flat w F ρ N vs k (((rs.drop s).take n).take m) := by
  obtain ⟨hN, hk, _, ⟨hvir, rfl, rfl, rfl⟩ | ⟨hvir, i', cap, cs, ty, rfl, hn, hii, hblk, hsize⟩⟩ := hv.sl_inv
  · have : m = 0 := by omega
    subst this
    exact ⟨[], by simp [Builtin.firstCells], by simpa using Flat.nil k⟩
  · obtain ⟨_, _, hrs, ⟨hv2, _⟩ | ⟨_, cs', ty', hblk', hsz, hd⟩⟩ := H.ok b _ hb
    · rw [hvir] at hv2; cases hv2
    · by_cases hm0 : m = 0
      · subst hm0
        refine ⟨[], ?_, by simpa using Flat.nil k⟩
        simp [Builtin.firstCells, loadCells, loadCellsFrom]
      · have hi2 : i' = s := by omega
        subst hi2
        have hlen : ((rs.drop i').take n).length = n := by simp; omega
        have hget : ∀ (i : Nat) (r : List DV), ((rs.drop i').take n)[i]? = some r → rs[i' + i]? = some r := by
          intro i r hi
          rw [List.getElem?_take] at hi
          split at hi
          · rwa [List.getElem?_drop] at hi
          · cases hi
        obtain ⟨vs, h1, h2⟩ := read_rows (P := P) (w := w) (F := F) (ρ := ρ) (N := N) (a := (ρ b).blk) (o := (ρ b).off + i' * k) (k := k) (m := m) (rs := (rs.drop i').take n)
          (fun r hr => hrs r (List.mem_of_mem_drop (List.mem_of_mem_take hr))) (by omega)
          (fun i j r d hi hj => by
            obtain ⟨v, h3, h4, h5⟩ := hd (i' + i) j r d (hget i r hi) hj
            refine ⟨v, ?_, h4, h5⟩
            rw [cell?_block hblk', ← h3, Nat.add_mul]
            congr 1; omega)
        exact ⟨vs, by simpa [Builtin.firstCells] using h1, h2⟩

theorem rows_read (H : HOk w F ρ N h) {y : DV} {v : Value} {k : Nat} {new : List (List DV)} (hy : rowsOf h k (some y) = some new) (hv : RepV w F ρ N y v) :
    (Builtin.lenOf v).run P w = .ok new.length w ∧ new.length ≤ maxL ∧
    ∀ m, m ≤ new.length → ∃ vs : List Value, (Builtin.firstCells k m v).run P w = .ok vs.toArray w ∧ Flat w F ρ N vs k (new.take m) := by
  cases y with
  | sl k' b s n =>
    obtain ⟨rs, hb, rfl, hle, rfl⟩ := rowsOf_sl hy
    have hlen : ((rs.drop s).take n).length = n := by simp; omega
    refine ⟨?_, by rw [hlen]; exact hv.sl_inv.2.2.1, fun m hm => own_read H hb hle hv m (by omega)⟩
    rw [hlen]
    obtain ⟨_, _, _, ⟨_, _, rfl, rfl⟩ | ⟨_, i', cap, cs, ty, rfl, _⟩⟩ := hv.sl_inv
    · rfl
    · rfl
  | fz k' rows =>
    simp only [rowsOf] at hy
    split at hy
    · rename_i hk'
      subst hk'
      cases hy
      obtain ⟨hmL, hk, ⟨rfl, rfl⟩ | ⟨a, c, cap, vals, rfl, hF, hcap, hcell, hr⟩⟩ := hv.fz_inv
      · refine ⟨rfl, hmL, fun m hm => ⟨[], ?_, ?_⟩⟩
        · simp [Builtin.firstCells]
        · simpa using Flat.nil k'
      · refine ⟨rfl, hmL, fun m hm => ?_⟩
        obtain ⟨vs, h1, h2⟩ := read_rows (P := P) (w := w) (F := F) (ρ := ρ) (N := N) (a := a) (o := c) (k := k') (m := m) (rs := new) hk hm
          (fun i j r d hi hj => by
            have hi' := (List.getElem?_eq_some_iff.1 hi).1
            have hj' := (List.getElem?_eq_some_iff.1 hj).1
            have := hk r (List.mem_of_getElem? hi)
            obtain ⟨h3, h4⟩ := hcell i j hi' (by omega)
            exact ⟨_, h3, h4, hr i j r d hi hj⟩)
        exact ⟨vs, by simpa [Builtin.firstCells] using h1, h2⟩
    · cases hy
  | nilsl =>
    simp only [rowsOf, Option.some.injEq] at hy
    subst hy
    rw [hv.nilsl_inv]
    refine ⟨rfl, Nat.zero_le _, fun m hm => ⟨[], ?_, ?_⟩⟩
    · simp [Builtin.firstCells]
    · simpa using Flat.nil k
  | _ => simp [rowsOf] at hy

/-- A new own block that is empty, and lies nowhere. -/
theorem Tr.newVir (H : HOk w F ρ N h) (hnb : ¬ N nb) (k : Nat) :
    Tr w F ρ N h w F (rhoAt ρ nb ⟨0, 0, k, true⟩) (Nn N nb) (updB h [(nb, some (.rows k []))]) := by
  have hρ : ∀ n, N n → rhoAt ρ nb ⟨0, 0, k, true⟩ n = ρ n := fun n hn => by
    unfold rhoAt; rw [if_neg]; rintro rfl; exact hnb hn
  have hme : rhoAt ρ nb ⟨0, 0, k, true⟩ nb = ⟨0, 0, k, true⟩ := by simp [rhoAt]
  have hold : ∀ n C, updB h [(nb, some (.rows k []))] n = some C → (n = nb ∧ C = .rows k []) ∨ (N n ∧ h n = some C) := by
    intro n C hn
    simp only [updB] at hn
    by_cases e : nb = n
    · rw [if_pos e] at hn; exact .inl ⟨e.symm, (Option.some.inj hn).symm⟩
    · rw [if_neg e] at hn; exact .inr ⟨(H.ok n C hn).1, hn⟩
  refine ⟨⟨?_, ?_, ?_⟩, Ev.refl w, fun _ _ _ => rfl, fun n hn => ⟨.inl hn, hρ n hn⟩, ?_, fun _ ha => ha, fun _ ha => .inl ha, rfl, rfl, rfl⟩
  · intro n C hn
    rcases hold n C hn with ⟨rfl, rfl⟩ | ⟨h1, h2⟩
    · exact ⟨.inr rfl, by rw [hme], by simp, .inl ⟨by rw [hme], rfl⟩⟩
    · exact ⟨.inl h1, (H.ok n C h2).2.mono (Ev.refl w) (fun _ ha => ⟨ha, rfl⟩) (fun m hm => ⟨.inl hm, hρ m hm⟩) h1 (fun _ => rfl)⟩
  · intro n m C D hn hm hne hvn hvm
    rcases hold n C hn with ⟨rfl, rfl⟩ | ⟨h1, h2⟩
    · rw [hme] at hvn; cases hvn
    · rcases hold m D hm with ⟨rfl, rfl⟩ | ⟨h3, h4⟩
      · rw [hme] at hvm; cases hvm
      · rw [hρ n h1, hρ m h3]; rw [hρ n h1] at hvn; rw [hρ m h3] at hvm; exact H.inj n m C D h2 h4 hne hvn hvm
  · intro a ha
    refine ⟨(H.fr a ha).1, fun n C hn hv => ?_⟩
    rcases hold n C hn with ⟨rfl, rfl⟩ | ⟨h1, h2⟩
    · rw [hme] at hv; cases hv
    · rw [hρ n h1]; rw [hρ n h1] at hv; exact (H.fr a ha).2 n C h2 hv
  · rintro b ⟨n, C, hn, hv, hb⟩
    rcases hold n C hn with ⟨rfl, rfl⟩ | ⟨h1, h2⟩
    · rw [hme] at hv; cases hv
    · rw [hρ n h1] at hv hb; exact .inr ⟨n, C, h2, hv, hb⟩

theorem rep_new_slv {w' : World} {k : Nat} : RepV w' F (rhoAt ρ nb ⟨0, 0, k, true⟩) (Nn N nb) (.sl k nb 0 0) (.slice none 0 0) := by
  have hme : rhoAt ρ nb ⟨0, 0, k, true⟩ nb = ⟨0, 0, k, true⟩ := by simp [rhoAt]
  exact .slv k nb (.inr rfl) (by rw [hme]) (by rw [hme])

/-- A block is told no more of. -/
theorem HOk.drop (H : HOk w F ρ N h) (b : Nat) : HOk w F ρ N (updB h [(b, none)]) := by
  have hold : ∀ n C, updB h [(b, none)] n = some C → h n = some C := by
    intro n C hn
    simp only [updB] at hn
    split at hn
    · cases hn
    · exact hn
  exact ⟨fun n C hn => H.ok n C (hold n C hn), fun n m C D hn hm => H.inj n m C D (hold n C hn) (hold m D hm), fun a ha => ⟨(H.fr a ha).1, fun n C hn => (H.fr a ha).2 n C (hold n C hn)⟩⟩

theorem Tr.drop (H : HOk w F ρ N h) (b : Nat) : Tr w F ρ N h w F ρ N (updB h [(b, none)]) where
  H := H.drop b
  ev := Ev.refl w
  same _ _ _ := rfl
  nm _ hn := ⟨hn, rfl⟩
  own c hc := by
    obtain ⟨n, C, hn, hv, hb⟩ := hc
    refine .inr ⟨n, C, ?_, hv, hb⟩
    simp only [updB] at hn
    split at hn
    · cases hn
    · exact hn
  f1 _ ha := ha
  f2 _ ha := .inl ha
  os := rfl
  tape := rfl
  out := rfl

/-- An own block turns in place, and bears another name from then on. -/
theorem Tr.rename (H : HOk w F ρ N h) (hnb : ¬ N nb) {b off k : Nat} {B B' : Blk} (hb : h b = some B) (hv : (ρ b).vir = false) {o : Obj}
    (hE : Ev w (setB w (ρ b).blk o)) (hB : BlkOk (setB w (ρ b).blk o) F (rhoAt ρ nb ⟨(ρ b).blk, off, k, false⟩) (Nn N nb) nb B') :
    Tr w F ρ N h (setB w (ρ b).blk o) F (rhoAt ρ nb ⟨(ρ b).blk, off, k, false⟩) (Nn N nb) (updB h [(b, none), (nb, some B')]) := by
  have hN := (H.ok b B hb).1
  have hρ : ∀ n, N n → rhoAt ρ nb ⟨(ρ b).blk, off, k, false⟩ n = ρ n := fun n hn => by
    unfold rhoAt; rw [if_neg]; rintro rfl; exact hnb hn
  have hme : rhoAt ρ nb ⟨(ρ b).blk, off, k, false⟩ nb = ⟨(ρ b).blk, off, k, false⟩ := by simp [rhoAt]
  have hFs : ∀ a, F a → (setB w (ρ b).blk o).heap[a]? = w.heap[a]? := fun a ha => setB_ne ((H.fr a ha).2 b B hb hv)
  have hold : ∀ n C, updB h [(b, none), (nb, some B')] n = some C → (n = nb ∧ C = B') ∨ (n ≠ b ∧ N n ∧ h n = some C) := by
    intro n C hn
    simp only [updB] at hn
    by_cases e : b = n
    · rw [if_pos e] at hn; cases hn
    · rw [if_neg e] at hn
      by_cases e2 : nb = n
      · rw [if_pos e2] at hn; exact .inl ⟨e2.symm, (Option.some.inj hn).symm⟩
      · rw [if_neg e2] at hn; exact .inr ⟨fun x => e x.symm, (H.ok n C hn).1, hn⟩
  refine ⟨⟨?_, ?_, ?_⟩, hE, ?_, fun n hn => ⟨.inl hn, hρ n hn⟩, ?_, fun _ ha => ha, fun _ ha => .inl ha, rfl, rfl, rfl⟩
  · intro n C hn
    rcases hold n C hn with ⟨rfl, rfl⟩ | ⟨h1, h2, h3⟩
    · exact ⟨.inr rfl, hB⟩
    · refine ⟨.inl h2, (H.ok n C h3).2.mono hE (fun a ha => ⟨ha, hFs a ha⟩) (fun m hm => ⟨.inl hm, hρ m hm⟩) h2 (fun hvn => setB_ne ?_)⟩
      exact fun e => H.inj n b C B h3 hb h1 hvn hv e.symm
  · intro n m C D hn hm hne hvn hvm
    rcases hold n C hn with ⟨rfl, rfl⟩ | ⟨h1, h2, h3⟩ <;> rcases hold m D hm with ⟨rfl, rfl⟩ | ⟨h4, h5, h6⟩
    · exact absurd rfl hne
    · rw [hme, hρ m h5]; rw [hρ m h5] at hvm; exact fun e => H.inj b m B D hb h6 (fun x => h4 x.symm) hv hvm e
    · rw [hme, hρ n h2]; rw [hρ n h2] at hvn; exact fun e => H.inj n b C B h3 hb h1 hvn hv e
    · rw [hρ n h2, hρ m h5]; rw [hρ n h2] at hvn; rw [hρ m h5] at hvm; exact H.inj n m C D h3 h6 hne hvn hvm
  · intro a ha
    refine ⟨by simpa using (H.fr a ha).1, fun n C hn hvn => ?_⟩
    rcases hold n C hn with ⟨rfl, rfl⟩ | ⟨_, h2, h3⟩
    · rw [hme]; exact (H.fr a ha).2 b B hb hv
    · rw [hρ n h2]; rw [hρ n h2] at hvn; exact (H.fr a ha).2 n C h3 hvn
  · intro c _ hO
    exact setB_ne fun e => hO ⟨b, B, hb, hv, e⟩
  · rintro c ⟨n, C, hn, hvn, hc⟩
    rcases hold n C hn with ⟨rfl, rfl⟩ | ⟨_, h2, h3⟩
    · rw [hme] at hc; exact .inr ⟨b, B, hb, hv, hc⟩
    · rw [hρ n h2] at hvn hc; exact .inr ⟨n, C, h3, hvn, hc⟩

end
end Go.Fv
/- ABSTRACT VALUES AND STATES (11): append, copy, clear. -/
namespace Go.Fv

section
variable {P : Program} {o : Oper} {ev : Operand → Value} {w : World} {F : Nat → Prop} {ρ : Nat → Place} {N : Nat → Prop} {h : Nat → Option Blk} {nb : Nat}

theorem run_app {c : Call} {x y : Operand} {t u : TypeId} (ho : o.op = .call c) (hc : c.callee = .builtin .append) (hargs : c.args.toList = [x, y]) (htys : c.argTypes.toList = [t, u])
    {v : Value} {w' : World} (hr : (Builtin.append_ #[t, u] o.type #[ev x, ev y]).run P w = .ok v w') : (execOp ev o).run P w = .ok (.value v) w' := by
  have ha' : c.args = #[x, y] := by apply Array.toList_inj.1; simpa using hargs
  have ht' : c.argTypes = #[t, u] := by apply Array.toList_inj.1; simpa using htys
  simp only [execOp, ho, resolve, hc, ha', ht', Sem.run_bind, Sem.run_pure, Result.andThen_ok, invoke, builtin]
  simp [hr]

theorem next_cap {need c by_ : Nat} (h : c < need) (hb : need * by_ ≤ 140737488355328) : ¬ (Builtin.nextslicecap need c * by_ > 2 ^ 48) := by
  have h2 : Builtin.nextslicecap need c ≤ 2 * need := by
    unfold Builtin.nextslicecap
    split
    · omega
    · split
      · omega
      · rename_i h3 h4
        have grow : ∀ (r x : Nat), x ≤ 2 * need → 256 ≤ x → need ≤ 2 * c → c ≤ x → Builtin.growBy need r x ≤ 2 * need := by
          intro r
          induction r with
          | zero => intro x hx _ _ _; exact hx
          | succ r ih =>
            intro x hx h5 h6 h7
            simp only [Builtin.growBy]
            split
            · exact hx
            · exact ih _ (by omega) (by omega) h6 (by omega)
        exact grow 4 c (by omega) (by omega) (by omega) (Nat.le_refl _)
  have : Builtin.nextslicecap need c * by_ ≤ 2 * need * by_ := Nat.mul_le_mul_right by_ h2
  rw [Nat.mul_assoc] at this
  omega

theorem lt_2_48 {n by_ : Nat} (h0 : 0 < by_) (h : n * by_ ≤ 140737488355328) : n ≤ 140737488355328 :=
  Nat.le_trans (Nat.le_mul_of_pos_right n h0) h

/-- append where the row grows into new memory. -/
theorem app_grow (H : HOk w F ρ N h) (hnb : ¬ N nb) {t u el ue : TypeId} {i : TypeInfo} {z : Value} {ty : TypeId} {xv yv : Value} {base : Option Addr} {n cap m : Nat}
    {old new : List (List DV)} (hu : P.underlying t = some (.slice el)) (hi : P.info? el = some i) (hz : i.zero = some z) (hu2 : P.underlying u = some (.slice ue))
    (hx : xv = .slice base n cap) (hgt : cap < n + m) (hb : (n + m) * i.bytes ≤ 140737488355328) (hby : 0 < i.bytes) (hzs : z.cells.size = i.size)
    (hlen : (Builtin.lenOf yv).run P w = .ok m w) (hold : old.length = n) (hnew : new.length = m)
    (ho : ∃ vs : List Value, (Builtin.firstCells i.size n xv).run P { w with drawn := w.drawn + 1 } = .ok vs.toArray { w with drawn := w.drawn + 1 } ∧ Flat { w with drawn := w.drawn + 1 } F ρ N vs i.size old)
    (hn : ∃ vs : List Value, (Builtin.firstCells i.size m yv).run P { w with drawn := w.drawn + 1 } = .ok vs.toArray { w with drawn := w.drawn + 1 } ∧ Flat { w with drawn := w.drawn + 1 } F ρ N vs i.size new) :
    ∃ v w' ρ', (Builtin.append_ #[t, u] ty #[xv, yv]).run P w = .ok v w' ∧ Tr w F ρ N h w' F ρ' (Nn N nb) (updB h [(nb, some (.rows i.size (old ++ new)))]) ∧
      RepV w' F ρ' (Nn N nb) (.sl i.size nb 0 (n + m)) v := by
  obtain ⟨vs, hvs, fvs⟩ := ho
  obtain ⟨us, hus, fus⟩ := hn
  subst hx
  let q : Question := .appendCap (n + m) cap el
  let nc : Nat := q.cut (w.tape w.drawn q)
  have hm48 := lt_2_48 hby hb
  have hnc : n + m ≤ nc := by
    show n + m ≤ (n + m) + w.tape w.drawn q % (2 ^ 63 - (n + m))
    omega
  have hf := fvs.append fus
  let cs : Array Value := vs.toArray ++ us.toArray ++ Builtin.zeroCells z.cells (nc - (n + m))
  have hcs : cs = (vs ++ us).toArray ++ Builtin.zeroCells z.cells (nc - (n + m)) := by
    show vs.toArray ++ us.toArray ++ _ = _
    simp
  have hrun : (Builtin.append_ #[t, u] ty #[.slice base n cap, yv]).run P w = .ok (.slice (some (adr w.heap.size 0)) (n + m) nc) (newB { w with drawn := w.drawn + 1 } (.cells cs el)) := by
    have hle : ¬ (n + m ≤ cap) := by omega
    have h63 : ¬ (((n + m : Nat) : Int) > IntKind.i64.max ∧ (False ∨ i.bytes = 0)) := by
      intro hcon; rcases hcon.2 with h | h
      · exact h
      · omega
    have hnx := next_cap hgt hb
    have hch : (choose q).run P w = .ok nc { w with drawn := w.drawn + 1 } := by
      show (if q.forced then _ else _) = _
      rfl
    unfold Builtin.append_
    simp only [List.getElem?_toArray, List.getElem?_cons_zero, List.getElem?_cons_succ, Sem.run_bind, run_under hu, run_under hu2, Result.andThen_ok, run_size hi, Sem.run_pure, hlen, hle, if_false, run_info hi]
    simp only [Bool.false_eq_true, if_false, Sem.run_pure, hlen, Result.andThen_ok, hle, run_info hi, Sem.run_bind]
    rw [if_neg h63]
    simp only [Sem.run_bind, run_info hi, Result.andThen_ok, hnx, if_false]
    rw [hch]
    simp only [Result.andThen_ok, run_info hi, run_askRoom, hvs, hus, Bool.not_false, if_true, run_zero hi hz, newRow, Sem.run_bind, run_newObj, Sem.run_pure]
    rfl
  have H1 := (Tr.draw H).H
  have T1 := Tr.draw H
  have hlen2 : (old ++ new).length = n + m := by simp [hold, hnew]
  have hszc : cs.size = (n + m) * i.size + (nc - (n + m)) * i.size := by
    rw [hcs]
    have := hf.1
    rw [hlen2] at this
    rw [Array.size_append, List.size_toArray, this]
    congr 1
    simp [Builtin.zeroCells, hzs]
  have hszn : cs.size = nc * i.size := by rw [hszc, ← Nat.add_mul]; congr 1; omega
  have hra : RowsAt { w with drawn := w.drawn + 1 } F ρ N cs 0 i.size (old ++ new) := by rw [hcs]; exact hf.rowsAt _
  have T2 := Tr.newRows (w := { w with drawn := w.drawn + 1 }) (ty := el) H1 hnb hf.2.2.1 (by rw [hlen2, hszc]; omega) hra
  refine ⟨_, _, _, hrun, T1.trans T2, ?_⟩
  exact rep_new_sl (p := ⟨w.heap.size, 0, i.size, false⟩) rfl rfl hnc (by unfold maxL; omega) newB_new (by simp [hszn])

theorem Flat.drawn {vs : List Value} {k : Nat} {rs : List (List DV)} (H : HOk w F ρ N h) (hf : Flat w F ρ N vs k rs) : Flat { w with drawn := w.drawn + 1 } F ρ N vs k rs :=
  hf.mono fun hv => (Tr.draw H).rep H hv

theorem updB_two {b c : Nat} (hne : c ≠ b) (v : Option Blk) : updB (updB h [(b, none)]) [(c, v)] = updB h [(b, none), (c, v)] := by
  funext q
  simp only [updB]
  by_cases e4 : b = q
  · subst e4; simp [hne]
  · simp [e4]

theorem good_grow (H : HOk w F ρ N h) (hnb : ¬ N nb) {e : O → OD} (he : Evs e ev w F ρ N) {c : Call} {t u el : TypeId} {x y : Operand} {eff : Eff} {i : TypeInfo} {z : Value} {ud : TypeDesc} {kk : IntKind} {a1 a2 : Nat} {a3 : Bool} {a4 : DV}
    (ho : o.op = .call c) (hc : c.callee = .builtin .append)
    (hargs : c.args.toList = [x, y]) (htys : c.argTypes.toList = [t, u]) (h1 : okO x = true) (h2 : okO y = true) (hu : P.underlying t = some (.slice el)) (hi : P.info? el = some i) (hz : i.zero = some z) (hzk : okV z = true)
    (hut : tiOf P u = some ⟨.int kk, a1, a2, a3, a4⟩) (ha : growA ⟨tkOf P el ud, i.size, i.bytes, wfZ i z, ofV z⟩ nb (e (stO x)) (e (stO y)) = some eff) :
    Good P o ev w F ρ N h nb eff := by
  unfold growA at ha
  split at ha
  · rename_i m hx hy
    simp only at ha
    split at ha
    · rename_i hcc
      obtain ⟨hwf, hm0⟩ := hcc
      split at ha
      · rename_i hroom
        cases ha
        obtain ⟨hcl, hcd, h0, hby⟩ := wfZ_inv hwf
        have hzs : z.cells.size = i.size := by rw [← (Cells.ofV (w := w) (F := F) (ρ := ρ) (N := N) z hzk).1]; exact hcl
        obtain ⟨n, rfl⟩ : ∃ n : Nat, m = (n : Int) := ⟨m.toNat, by omega⟩
        have hroom' : n * i.bytes ≤ 140737488355328 := by
          have h5 : ((n * i.bytes : Nat) : Int) ≤ 140737488355328 := by rw [Int.natCast_mul]; exact hroom
          omega
        have hn48 := lt_2_48 hby hroom'
        have hwr : IntKind.i64.wrap (n : Int) = n := wrap_i64 (by omega) (by omega)
        have hval := (he x h1 _ hx).nilsl_inv
        have hy' := (he y h2 _ hy).int_inv
        have hu2 := int_tk hut
        have hneg : ¬ ((n : Int) < 0) := by omega
        have hbig : ¬ ((n : Int) * (i.bytes : Int) > 2 ^ 48) := by
          have h6 : (n : Int) * (i.bytes : Int) ≤ 140737488355328 := hroom
          omega
        rw [Int.toNat_natCast]
        by_cases hn0 : n = 0
        · subst hn0
          have hrun : (Builtin.append_ #[t, u] o.type #[ev x, ev y]).run P w = .ok (.slice none 0 0) w := by
            unfold Builtin.append_
            rw [hval, hy']
            simp only [List.getElem?_toArray, List.getElem?_cons_zero, List.getElem?_cons_succ, Sem.run_bind, run_under hu, run_under hu2, Result.andThen_ok, run_size hi, Sem.run_pure, asInt, asIntOf, hwr, if_true]
            simp only [Sem.run_bind, run_info hi, Result.andThen_ok, Sem.run_pure, hneg, hbig, if_false]
            simp
          refine ⟨_, _, _, run_app ho hc hargs htys hrun, Tr.newVir H hnb i.size, .inl ⟨_, rfl, fun d hd => ?_⟩⟩
          cases hd
          exact rep_new_slv
        · have hT := flat_zero (w := { w with drawn := w.drawn + 1 }) (F := F) (ρ := ρ) (N := N) hzk hcl h0 hcd n
          let q : Question := .appendCap (0 + n) 0 el
          let nc : Nat := q.cut (w.tape w.drawn q)
          have hnc : n ≤ nc := by
            show n ≤ (0 + n) + w.tape w.drawn q % (2 ^ 63 - (0 + n))
            omega
          have hzc : Builtin.zeroCells z.cells n = ((List.range (n * i.size)).map fun j => z.cells[j % z.cells.size]!).toArray := by
            apply Array.toList_inj.1
            simp [Builtin.zeroCells, hzs]
          have hns : ¬ (n * i.size = 0) := by
            have := Nat.mul_pos (Nat.pos_of_ne_zero hn0) h0; omega
          have hrun : (Builtin.append_ #[t, u] o.type #[ev x, ev y]).run P w = .ok (.slice (some (adr w.heap.size 0)) (0 + n) nc)
              (newB { w with drawn := w.drawn + 1 } (.cells (((List.range (n * i.size)).map fun j => z.cells[j % z.cells.size]!).toArray ++ Builtin.zeroCells z.cells (nc - (0 + n))) el)) := by
            have hle : ¬ (0 + n ≤ 0) := by omega
            have h63 : ¬ (((0 + n : Nat) : Int) > IntKind.i64.max ∧ (True ∨ i.bytes = 0)) := by
              intro hcon
              have : IntKind.i64.max = 9223372036854775807 := rfl
              omega
            have hnx := next_cap (c := 0) (need := 0 + n) (by_ := i.bytes) (by omega) (by simpa using hroom')
            have hch : (choose q).run P w = .ok nc { w with drawn := w.drawn + 1 } := by
              show (if q.forced then _ else _) = _
              rfl
            unfold Builtin.append_
            rw [hval, hy']
            simp only [List.getElem?_toArray, List.getElem?_cons_zero, List.getElem?_cons_succ, Sem.run_bind, run_under hu, run_under hu2, Result.andThen_ok, run_size hi, Sem.run_pure, asInt, asIntOf, hwr, if_true]
            simp only [Sem.run_bind, run_info hi, Result.andThen_ok, Sem.run_pure, hneg, hbig, if_false, Int.toNat_natCast, hle]
            rw [if_neg h63]
            simp only [Sem.run_bind, run_info hi, Result.andThen_ok, hnx, if_false]
            rw [hch]
            simp only [Result.andThen_ok, run_info hi, run_askRoom, Builtin.firstCells, Sem.run_pure, Bool.not_true, Bool.false_eq_true, if_false, hns, Sem.run_bind, run_zero hi hz, newRow, run_newObj, hzc]
            simp
            rfl
          have H1 := (Tr.draw H).H
          have T1 := Tr.draw H
          have hra := hT.rowsAt (Builtin.zeroCells z.cells (nc - (0 + n)))
          have hsz : (((List.range (n * i.size)).map fun j => z.cells[j % z.cells.size]!).toArray ++ Builtin.zeroCells z.cells (nc - (0 + n))).size = nc * i.size := by
            simp only [Array.size_append, List.size_toArray, List.length_map, List.length_range, Builtin.zeroCells, Array.size_map, Array.size_range, hzs]
            rw [← Nat.add_mul]; congr 1; omega
          have T2 := Tr.newRows (w := { w with drawn := w.drawn + 1 }) (ty := el) H1 hnb hT.2.2.1 (by rw [hsz]; simp only [List.length_replicate]; exact Nat.mul_le_mul_right _ hnc) hra
          refine ⟨_, _, _, run_app ho hc hargs htys hrun, T1.trans T2, .inl ⟨_, rfl, fun d hd => ?_⟩⟩
          cases hd
          have e0 : 0 + n = n := Nat.zero_add n
          have := rep_new_sl (F := F) (ρ := ρ) (N := N) (nb := nb) (p := ⟨w.heap.size, 0, i.size, false⟩) (k := i.size) rfl rfl hnc (by unfold maxL; omega) (newB_new (w := { w with drawn := w.drawn + 1 }) (o := .cells (((List.range (n * i.size)).map fun j => z.cells[j % z.cells.size]!).toArray ++ Builtin.zeroCells z.cells (nc - (0 + n))) el)) (by simp only [Nat.zero_add]; rw [show nc - n = nc - (0 + n) from by omega]; rw [hsz]; exact Nat.le_refl _)
          rw [e0] at this ⊢
          exact this
      · cases ha
    · cases ha
  · cases ha

theorem good_app (H : HOk w F ρ N h) (hnb : ¬ N nb) {e : O → OD} (he : Evs e ev w F ρ N) {c : Call} {t u : TypeId} {x y : Operand} {eff : Eff} (ho : o.op = .call c) (hc : c.callee = .builtin .append)
    (hargs : c.args.toList = [x, y]) (htys : c.argTypes.toList = [t, u]) (h1 : okO x = true) (h2 : okO y = true) (ha : appA (tiOf P) h t u nb (e (stO x)) (e (stO y)) = some eff) :
    Good P o ev w F ρ N h nb eff := by
  unfold appA at ha
  split at ha
  · rename_i ei hei
    obtain ⟨el, i, ud, z, hu, hi, hue, hz, hzk, rfl⟩ := elTI_inv hei
    split at ha
    · rename_i hut
      exact good_grow H hnb he ho hc hargs htys h1 h2 hu hi hz hzk hut ha
    · rename_i ue _ _ _ _ hut
      have hu2 := slice_tk hut
      simp only at ha
      split at ha
      · rename_i new hnew
        cases hy : e (stO y) with
        | none => rw [hy] at hnew; simp [rowsOf] at hnew
        | some dy =>
          rw [hy] at hnew
          have hry := he y h2 _ hy
          obtain ⟨hlen, hmL, hread⟩ := rows_read (P := P) H hnew hry
          have HD := (Tr.draw H).H
          have hreadD := (rows_read (P := P) HD hnew ((Tr.draw H).rep H hry)).2.2
          split at ha
          · rename_i k b s n hx
            split at ha
            · rename_i kk rs hb
              split at ha
              · rename_i hcond
                obtain ⟨rfl, hle, hwf⟩ := hcond
                obtain ⟨hcl, hcd, h0, hby⟩ := wfZ_inv hwf
                have hzs : z.cells.size = i.size := by rw [← (Cells.ofV (w := w) (F := F) (ρ := ρ) (N := N) z hzk).1]; exact hcl
                split at ha
                · rename_i hroom
                  cases ha
                  have hroom' : (n + new.length) * i.bytes ≤ 140737488355328 := by
                    have : ((n + new.length : Nat) : Int) * (i.bytes : Int) ≤ 140737488355328 := by simpa using hroom
                    have h5 : (((n + new.length) * i.bytes : Nat) : Int) ≤ 140737488355328 := by rw [Int.natCast_mul]; exact this
                    omega
                  have hrx := he x h1 _ hx
                  have hkk : kk = i.size := by
                    have e1 := hrx.sl_inv.2.1
                    have e2 := (H.ok b _ hb).2.1
                    omega
                  subst hkk
                  have hol : ((rs.drop s).take n).length = n := by simp; omega
                  obtain ⟨hN, hk, hmn, ⟨hvir, rfl, rfl, hval⟩ | ⟨hvir, i', cap, cs, ty, hval, hn, hii, hblk, hsize⟩⟩ := hrx.sl_inv
                  · -- it lies nowhere yet
                    have hrs0 : rs = [] := by
                      obtain ⟨_, _, ⟨_, h6⟩ | ⟨h6, _⟩⟩ := (H.ok b _ hb).2
                      · exact h6
                      · rw [hvir] at h6; cases h6
                    subst hrs0
                    have HR := H.drop b
                    by_cases hm0 : new.length = 0
                    · have hn0 : new = [] := List.length_eq_zero_iff.1 hm0
                      subst hn0
                      have hrun : (Builtin.append_ #[t, u] o.type #[ev x, ev y]).run P w = .ok (.slice none 0 0) w := by
                        obtain ⟨vs, hvs, _⟩ := hread 0 (by simp)
                        unfold Builtin.append_
                        rw [hval]
                        simp only [List.getElem?_toArray, List.getElem?_cons_zero, List.getElem?_cons_succ, Sem.run_bind, run_under hu, run_under hu2, Result.andThen_ok, run_size hi, Sem.run_pure]
                        simp only [Bool.false_eq_true, if_false, hlen, Result.andThen_ok, List.length_nil, Nat.add_zero, Nat.le_refl, if_true, Bool.not_false, Sem.run_bind, hvs, Sem.run_pure]
                      refine ⟨_, _, _, run_app ho hc hargs htys hrun, (by rw [← updB_two (h := h) (fun e5 => hnb (by rw [e5]; exact hN))]; exact (Tr.drop H b).trans (Tr.newVir HR hnb i.size)), .inl ⟨_, rfl, fun d hd => ?_⟩⟩
                      cases hd
                      exact rep_new_slv
                    · have hrx0 := HR
                      obtain ⟨v, w', ρ', hr, T, hrep⟩ := app_grow (P := P) (ty := o.type) (w := w) (F := F) (ρ := ρ) (N := N) (h := updB h [(b, none)]) (nb := nb) (xv := ev x) (yv := ev y) (base := none) (n := 0) (cap := 0) (m := new.length)
                        (old := []) (new := new) HR hnb hu hi hz hu2 hval (by omega) (by simpa using hroom') hby hzs hlen rfl rfl
                        ⟨[], by rw [hval]; simp [Builtin.firstCells], Flat.nil _⟩
                        (by obtain ⟨vs, h7, h8⟩ := hreadD new.length (Nat.le_refl _); exact ⟨vs, h7, by simpa using h8⟩)
                      have T2 := (Tr.drop H b).trans T
                      refine ⟨_, _, ρ', run_app ho hc hargs htys hr, ?_, .inl ⟨_, rfl, fun d hd => ?_⟩⟩
                      · have e3 : updB (updB h [(b, none)]) [(nb, some (.rows i.size ([] ++ new)))] = updB h [(b, none), (nb, some (.rows i.size ((([] : List (List DV)).drop 0).take 0 ++ new)))] := by
                          funext q
                          simp only [updB, List.drop_nil, List.take_nil]
                          by_cases e4 : b = q
                          · subst e4
                            have : nb ≠ b := fun e5 => hnb (by rw [e5]; exact hN)
                            simp [this]
                          · simp [e4]
                        rw [← e3]; exact T2
                      · cases hd; simpa using hrep
                  · have hrows : ∀ r ∈ rs, r.length = i.size := by
                      obtain ⟨_, h6, _⟩ := (H.ok b _ hb).2; exact h6
                    by_cases hfit : n + new.length ≤ cap
                    · -- in place
                      obtain ⟨vs, hvs, hfl⟩ := hread new.length (Nat.le_refl _)
                      rw [List.take_length] at hfl
                      have hvl : vs.length = new.length * i.size := hfl.1
                      have hadd : (adr (ρ b).blk ((ρ b).off + i' * i.size)).add (n * i.size) = adr (ρ b).blk ((ρ b).off + i' * i.size + n * i.size) := addr_add _ _ _
                      have hle' : i' ≤ s := by omega
                      have hcapk : (ρ b).off + i' * i.size + cap * i.size ≤ cs.size := by
                        have : (i' + cap) * i.size ≤ (s + cap) * i.size := Nat.mul_le_mul_right _ (by omega)
                        rw [Nat.add_mul] at this; omega
                      have hfitk : (ρ b).off + i' * i.size + n * i.size + vs.length ≤ cs.size := by
                        have : (n + new.length) * i.size ≤ cap * i.size := Nat.mul_le_mul_right _ hfit
                        rw [Nat.add_mul] at this; omega
                      have hst := run_storeCells (P := P) (ρ b).blk ((ρ b).off + i' * i.size + n * i.size) ty vs 0 w cs hblk (by simpa using hfitk) hfl.2.1
                      have hrun : (Builtin.append_ #[t, u] o.type #[ev x, ev y]).run P w =
                          .ok (.slice (some (adr (ρ b).blk ((ρ b).off + i' * i.size))) (n + new.length) cap) (setB w (ρ b).blk (.cells (putArr cs ((ρ b).off + i' * i.size + n * i.size) vs) ty (0, 0))) := by
                        unfold Builtin.append_
                        rw [hval]
                        simp only [List.getElem?_toArray, List.getElem?_cons_zero, List.getElem?_cons_succ, Sem.run_bind, run_under hu, run_under hu2, Result.andThen_ok, run_size hi, Sem.run_pure]
                        simp only [Bool.false_eq_true, if_false, hlen, Result.andThen_ok, hfit, if_true, Bool.not_false, Sem.run_bind, hvs, Sem.run_pure, hadd]
                        rw [hst]
                        rfl
                      have hE := Ev_setB (cs' := putArr cs ((ρ b).off + i' * i.size + n * i.size) vs) hblk (by simp)
                      have mono : ∀ {d : DV} {v : Value}, RepV w F ρ N d v → RepV (setB w (ρ b).blk (.cells (putArr cs ((ρ b).off + i' * i.size + n * i.size) vs) ty (0, 0))) F
                          (rhoAt ρ nb ⟨(ρ b).blk, (ρ b).off + i' * i.size, i.size, false⟩) (Nn N nb) d v :=
                        fun hv => hv.mono hE (fun q hq => ⟨hq, setB_ne ((H.fr q hq).2 b _ hb hvir)⟩) (fun q hq => ⟨.inl hq, by unfold rhoAt; rw [if_neg]; rintro rfl; exact hnb hq⟩)
                      have hme : rhoAt ρ nb ⟨(ρ b).blk, (ρ b).off + i' * i.size, i.size, false⟩ nb = ⟨(ρ b).blk, (ρ b).off + i' * i.size, i.size, false⟩ := by simp [rhoAt]
                      have hblk2 : (setB w (ρ b).blk (.cells (putArr cs ((ρ b).off + i' * i.size + n * i.size) vs) ty (0, 0))).heap[(ρ b).blk]? = some (.cells (putArr cs ((ρ b).off + i' * i.size + n * i.size) vs) ty (0, 0)) := setB_same (lt_of_block hblk)
                      have hB : BlkOk (setB w (ρ b).blk (.cells (putArr cs ((ρ b).off + i' * i.size + n * i.size) vs) ty (0, 0))) F (rhoAt ρ nb ⟨(ρ b).blk, (ρ b).off + i' * i.size, i.size, false⟩) (Nn N nb) nb
                          (.rows i.size ((rs.drop s).take n ++ new)) := by
                        refine ⟨by rw [hme], ?_, .inr ⟨by rw [hme], _, ty, by rw [hme]; exact hblk2, ?_, ?_⟩⟩
                        · intro r hr
                          rcases List.mem_append.1 hr with hr | hr
                          · exact hrows r (List.mem_of_mem_drop (List.mem_of_mem_take hr))
                          · exact hfl.2.2.1 r hr
                        · rw [hme]
                          simp only [List.length_append, hol, size_putArr, Nat.add_mul]
                          omega
                        · intro p q r d hp hq
                          rw [hme]
                          simp only
                          rw [putArr_get _ _ _ _ hfitk]
                          have hqk : q < i.size := by
                            have h9 : r.length = i.size := by
                              rcases List.mem_append.1 (List.mem_of_getElem? hp) with hr | hr
                              · exact hrows r (List.mem_of_mem_drop (List.mem_of_mem_take hr))
                              · exact hfl.2.2.1 r hr
                            have := (List.getElem?_eq_some_iff.1 hq).1
                            omega
                          have hrg := row_range (k := i.size) (i := p) (j := q) (s := n) (m := new.length) hqk
                          by_cases hpn : p < n
                          · rw [List.getElem?_append_left (by omega), List.getElem?_take, if_pos hpn, List.getElem?_drop] at hp
                            rw [if_neg (by intro h9; have := hrg.1 (by omega); omega)]
                            have hi2 : i' = s := by omega
                            subst hi2
                            obtain ⟨_, _, ⟨h6, _⟩ | ⟨_, cs', ty', hblk', hsz', hd'⟩⟩ := (H.ok b _ hb).2
                            · rw [hvir] at h6; cases h6
                            · rw [hblk] at hblk'
                              cases hblk'
                              obtain ⟨v, h7, h8, h9⟩ := hd' (i' + p) q r d hp hq
                              refine ⟨v, ?_, h8, mono h9⟩
                              rw [← h7, Nat.add_mul]; congr 1; omega
                          · rw [List.getElem?_append_right (by omega), hol] at hp
                            have hpm : p < n + new.length := by have := (List.getElem?_eq_some_iff.1 hp).1; omega
                            rw [if_pos (by have := hrg.2 ⟨by omega, hpm⟩; omega)]
                            obtain ⟨v, h7, h8⟩ := hfl.2.2.2 (p - n) q r d hp hq
                            refine ⟨v, ?_, hfl.2.1 v (List.mem_of_getElem? h7), mono h8⟩
                            have : n * i.size ≤ p * i.size := Nat.mul_le_mul_right _ (by omega)
                            rw [← h7, Nat.sub_mul]; congr 1; omega
                      refine ⟨_, _, _, run_app ho hc hargs htys hrun, Tr.rename H hnb hb hvir hE hB, .inl ⟨_, rfl, fun d hd => ?_⟩⟩
                      cases hd
                      refine rep_new_sl (p := ⟨(ρ b).blk, (ρ b).off + i' * i.size, i.size, false⟩) rfl rfl hfit ?_ hblk2 (by simp; omega)
                      have := lt_2_48 hby hroom'
                      unfold maxL; omega
                    · -- into new memory
                      have HR := H.drop b
                      obtain ⟨vs1, h11, h12⟩ := own_read (P := P) HD hb hle ((Tr.draw H).rep H hrx) n (Nat.le_refl _)
                      obtain ⟨vs2, h21, h22⟩ := hreadD new.length (Nat.le_refl _)
                      obtain ⟨v, w', ρ', hr, T, hrep⟩ := app_grow (P := P) (ty := o.type) (w := w) (F := F) (ρ := ρ) (N := N) (h := updB h [(b, none)]) (nb := nb) (xv := ev x) (yv := ev y) (n := n) (cap := cap) (m := new.length)
                        (old := (rs.drop s).take n) (new := new) HR hnb hu hi hz hu2 hval (by omega) hroom' hby hzs hlen hol rfl
                        ⟨vs1, h11, by rw [List.take_of_length_le (by omega)] at h12; exact h12⟩ ⟨vs2, h21, by simpa using h22⟩
                      have T2 := (Tr.drop H b).trans T
                      refine ⟨_, _, ρ', run_app ho hc hargs htys hr, ?_, .inl ⟨_, rfl, fun d hd => ?_⟩⟩
                      · have e3 : updB (updB h [(b, none)]) [(nb, some (.rows i.size ((rs.drop s).take n ++ new)))] = updB h [(b, none), (nb, some (.rows i.size ((rs.drop s).take n ++ new)))] := by
                          funext q
                          simp only [updB]
                          by_cases e4 : b = q
                          · subst e4
                            have : nb ≠ b := fun e5 => hnb (by rw [e5]; exact hN)
                            simp [this]
                          · simp [e4]
                        rw [← e3]; exact T2
                      · cases hd; exact hrep
                · cases ha
              · cases ha
            · cases ha
          · rename_i hx
            split at ha
            · rename_i hwf
              obtain ⟨hcl, hcd, h0, hby⟩ := wfZ_inv hwf
              have hzs : z.cells.size = i.size := by rw [← (Cells.ofV (w := w) (F := F) (ρ := ρ) (N := N) z hzk).1]; exact hcl
              split at ha
              · rename_i hroom
                cases ha
                have hroom' : new.length * i.bytes ≤ 140737488355328 := by
                  have h5 : ((new.length * i.bytes : Nat) : Int) ≤ 140737488355328 := by rw [Int.natCast_mul]; exact hroom
                  omega
                have hval := (he x h1 _ hx).nilsl_inv
                by_cases hm0 : new.length = 0
                · have hn0 : new = [] := List.length_eq_zero_iff.1 hm0
                  subst hn0
                  have hrun : (Builtin.append_ #[t, u] o.type #[ev x, ev y]).run P w = .ok (.slice none 0 0) w := by
                    obtain ⟨vs, hvs, _⟩ := hread 0 (by simp)
                    unfold Builtin.append_
                    rw [hval]
                    simp only [List.getElem?_toArray, List.getElem?_cons_zero, List.getElem?_cons_succ, Sem.run_bind, run_under hu, run_under hu2, Result.andThen_ok, run_size hi, Sem.run_pure]
                    simp only [Bool.false_eq_true, if_false, hlen, Result.andThen_ok, List.length_nil, Nat.add_zero, Nat.le_refl, if_true, Bool.not_false, Sem.run_bind, hvs, Sem.run_pure]
                  refine ⟨_, _, _, run_app ho hc hargs htys hrun, Tr.newVir H hnb i.size, .inl ⟨_, rfl, fun d hd => ?_⟩⟩
                  cases hd
                  exact rep_new_slv
                · obtain ⟨v, w', ρ', hr, T, hrep⟩ := app_grow (P := P) (ty := o.type) (w := w) (F := F) (ρ := ρ) (N := N) (h := h) (nb := nb) (xv := ev x) (yv := ev y) (base := none) (n := 0) (cap := 0) (m := new.length)
                    (old := []) (new := new) H hnb hu hi hz hu2 hval (by omega) (by simpa using hroom') hby hzs hlen rfl rfl
                    ⟨[], by rw [hval]; simp [Builtin.firstCells], Flat.nil _⟩
                    (by obtain ⟨vs, h7, h8⟩ := hreadD new.length (Nat.le_refl _); exact ⟨vs, h7, by simpa using h8⟩)
                  refine ⟨_, _, ρ', run_app ho hc hargs htys hr, by simpa using T, .inl ⟨_, rfl, fun d hd => ?_⟩⟩
                  cases hd
                  simpa using hrep
              · cases ha
            · cases ha
          · cases ha
      · cases ha
    · cases ha
  · cases ha

end
end Go.Fv
/- ABSTRACT VALUES AND STATES (12): copy, clear; maps. -/
namespace Go.Fv

section
variable {P : Program} {o : Oper} {ev : Operand → Value} {w : World} {F : Nat → Prop} {ρ : Nat → Place} {N : Nat → Prop} {h : Nat → Option Blk} {nb : Nat}

/-- Rows of an own block are laid anew from a place on. -/
theorem Tr.overRows (H : HOk w F ρ N h) (nb : Nat) {b k s : Nat} {rs new : List (List DV)} {cs : Array Value} {ty : TypeId} {vs : List Value} (hb : h b = some (.rows k rs)) (hv : (ρ b).vir = false)
    (hblk : w.heap[(ρ b).blk]? = some (.cells cs ty (0, 0))) (hle : s + new.length ≤ rs.length) (hf : Flat w F ρ N vs k new) :
    Tr w F ρ N h (setB w (ρ b).blk (.cells (putArr cs ((ρ b).off + s * k) vs) ty (0, 0))) F ρ (Nn N nb) (updB h [(b, some (.rows k (over rs s new)))]) := by
  obtain ⟨_, hkk, hrs, ⟨h6, _⟩ | ⟨_, cs', ty', hblk', hsz, hd⟩⟩ := H.ok b _ hb
  · rw [hv] at h6; cases h6
  · rw [hblk] at hblk'
    cases hblk'
    have hra : RowsAt w F ρ N cs (ρ b).off k rs := fun i j r d hi hj => hd i j r d hi hj
    have hput := hra.put hrs hsz hle hf
    have hE := Ev_setB (cs' := putArr cs ((ρ b).off + s * k) vs) hblk (by simp)
    refine Tr.put H nb hb hv hE ⟨hkk, over_mem hrs hf.2.2.1, .inr ⟨hv, _, ty, setB_same (lt_of_block hblk), by rw [over_length hle]; simpa using hsz, ?_⟩⟩
    intro i j r d hi hj
    obtain ⟨v, h3, h4, h5⟩ := hput i j r d hi hj
    exact ⟨v, h3, h4, h5.mono hE (fun q hq => ⟨hq, setB_ne ((H.fr q hq).2 b _ hb hv)⟩) (fun n hn => ⟨hn, rfl⟩)⟩

theorem over_nil {rs : List (List DV)} {s : Nat} : over rs s [] = rs := by simp [over]

theorem updB_same {b : Nat} {B : Blk} (hb : h b = some B) : updB h [(b, some B)] = h := by
  funext q
  simp only [updB]
  by_cases e : b = q
  · subst e; simp [hb]
  · simp [e]

theorem good_copy (H : HOk w F ρ N h) {e : O → OD} (he : Evs e ev w F ρ N) {c : Call} {t u : TypeId} {x y : Operand} {eff : Eff} (ho : o.op = .call c) (hc : c.callee = .builtin .copy)
    (hargs : c.args.toList = [x, y]) (htys : c.argTypes.toList = [t, u]) (h1 : okO x = true) (h2 : okO y = true) (ha : copyA (tiOf P) h t u (e (stO x)) (e (stO y)) = some eff) :
    Good P o ev w F ρ N h nb eff := by
  have ha' : c.args = #[x, y] := by apply Array.toList_inj.1; simpa using hargs
  have ht' : c.argTypes = #[t, u] := by apply Array.toList_inj.1; simpa using htys
  have fin : ∀ {v : Value} {w' : World}, (Builtin.copy_ #[t, u] o.type #[ev x, ev y]).run P w = .ok v w' → (execOp ev o).run P w = .ok (.value v) w' := by
    intro v w' hr
    simp only [execOp, ho, resolve, hc, ha', ht', Sem.run_bind, Sem.run_pure, Result.andThen_ok, invoke, builtin]
    simp [hr]
  unfold copyA at ha
  split at ha
  · rename_i ei hei
    obtain ⟨el, i, ud, z, hu, hi, hue, hz, hzk, rfl⟩ := elTI_inv hei
    simp only at ha
    split at ha
    · split at ha
      · rename_i k b s n new hx hnew
        split at ha
        · rename_i kk rs hb
          split at ha
          · rename_i hcond
            cases ha
            obtain ⟨rfl, hle, hwf⟩ := hcond
            cases hy : e (stO y) with
            | none => rw [hy] at hnew; simp [rowsOf] at hnew
            | some dy =>
              rw [hy] at hnew
              have hry := he y h2 _ hy
              have hrx := he x h1 _ hx
              have hkk : kk = i.size := by
                have e1 := hrx.sl_inv.2.1
                have e2 := (H.ok b _ hb).2.1
                omega
              subst hkk
              obtain ⟨hlen, hmL, hread⟩ := rows_read (P := P) H hnew hry
              obtain ⟨vs, hvs, hfl⟩ := hread (Nat.min new.length n) (Nat.min_le_left _ _)
              have hnl : (new.take (Nat.min new.length n)).length = Nat.min new.length n := by simp
              have htk : new.take (Nat.min new.length n) = new.take n := by
                show new.take (Min.min new.length n) = _
                rw [Nat.min_def]; split
                · rename_i h5; rw [List.take_of_length_le (Nat.le_refl _), List.take_of_length_le h5]
                · rfl
              rw [htk] at hfl
              obtain ⟨hN, hk, hmn, ⟨hvir, rfl, rfl, hval⟩ | ⟨hvir, i', cap, cs, ty, hval, hn, hii, hblk, hsize⟩⟩ := hrx.sl_inv
              · have hv0 : vs = [] := by
                  have := hfl.1; simp at this; exact this
                subst hv0
                refine ⟨_, w, ρ, fin (v := goInt (Nat.min new.length 0 : Nat)) ?_, ?_, .inl ⟨_, rfl, fun d hd => ?_⟩⟩
                · unfold Builtin.copy_
                  rw [hval]
                  simp only [List.getElem?_toArray, List.getElem?_cons_zero, List.getElem?_cons_succ, Sem.run_bind, run_under hu, Result.andThen_ok, hlen, run_size hi, Sem.run_pure]
                  have hvs' : (Builtin.firstCells i.size (Nat.min new.length 0) (ev y)).run P w = .ok #[] w := hvs
                  simp only [hvs', Result.andThen_ok]
                · have e3 : over rs 0 (new.take 0) = rs := by simp [over]
                  rw [e3]
                  show Tr w F ρ N h w F ρ (Nn N nb) (updB h [(b, some (.rows i.size rs))])
                  rw [updB_same hb]
                  exact Tr.idle H nb
                · cases hd; exact .int _ _
              · have hst : (new.take n).length ≤ n := by simp; omega
                have hfit : (ρ b).off + s * i.size + vs.length ≤ cs.size := by
                  have h7 : (s + (new.take n).length) * i.size ≤ (s + cap) * i.size := Nat.mul_le_mul_right _ (by omega)
                  rw [Nat.add_mul] at h7
                  have := hfl.1
                  omega
                by_cases hi0 : i' = s
                · subst hi0
                  have hstore := run_storeCells (P := P) (ρ b).blk ((ρ b).off + i' * i.size) ty vs 0 w cs hblk (by simpa using hfit) hfl.2.1
                  have hrun : (Builtin.copy_ #[t, u] o.type #[ev x, ev y]).run P w = .ok (goInt (Nat.min new.length n : Nat)) (setB w (ρ b).blk (.cells (putArr cs ((ρ b).off + i' * i.size) vs) ty (0, 0))) := by
                    unfold Builtin.copy_
                    rw [hval]
                    simp only [List.getElem?_toArray, List.getElem?_cons_zero, List.getElem?_cons_succ, Sem.run_bind, run_under hu, Result.andThen_ok, hlen, run_size hi, Sem.run_pure, hvs]
                    rw [hstore]
                    rfl
                  refine ⟨_, _, ρ, fin hrun, Tr.overRows H nb hb hvir hblk (by omega) hfl, .inl ⟨_, rfl, fun d hd => ?_⟩⟩
                  cases hd; exact .int _ _
                · have hn0 : n = 0 := by omega
                  subst hn0
                  have hv0 : vs = [] := by
                    have := hfl.1; simp at this; exact this
                  subst hv0
                  refine ⟨_, w, ρ, fin (v := goInt (Nat.min new.length 0 : Nat)) ?_, ?_, .inl ⟨_, rfl, fun d hd => ?_⟩⟩
                  · unfold Builtin.copy_
                    rw [hval]
                    simp only [List.getElem?_toArray, List.getElem?_cons_zero, List.getElem?_cons_succ, Sem.run_bind, run_under hu, Result.andThen_ok, hlen, run_size hi, Sem.run_pure]
                    have hvs' : (Builtin.firstCells i.size (Nat.min new.length 0) (ev y)).run P w = .ok #[] w := hvs
                    simp only [hvs', Result.andThen_ok, storeCells, Sem.run_pure]
                  · have e3 : over rs s (new.take 0) = rs := by simp [over]
                    rw [e3]
                    show Tr w F ρ N h w F ρ (Nn N nb) (updB h [(b, some (.rows i.size rs))])
                    rw [updB_same hb]
                    exact Tr.idle H nb
                  · cases hd; exact .int _ _
          · cases ha
        · cases ha
      · cases ha
    · cases ha
  · cases ha

theorem good_clear (H : HOk w F ρ N h) {e : O → OD} (he : Evs e ev w F ρ N) {c : Call} {t : TypeId} {x : Operand} {eff : Eff} (ho : o.op = .call c) (hc : c.callee = .builtin .clear)
    (hargs : c.args.toList = [x]) (htys : c.argTypes.toList = [t]) (h1 : okO x = true) (ha : clearA (tiOf P) h t (e (stO x)) = some eff) : Good P o ev w F ρ N h nb eff := by
  have ha' : c.args = #[x] := by apply Array.toList_inj.1; simpa using hargs
  have ht' : c.argTypes = #[t] := by apply Array.toList_inj.1; simpa using htys
  have fin : ∀ {v : Value} {w' : World}, (Builtin.clear_ #[t] o.type #[ev x]).run P w = .ok v w' → (execOp ev o).run P w = .ok (.value v) w' := by
    intro v w' hr
    simp only [execOp, ho, resolve, hc, ha', ht', Sem.run_bind, Sem.run_pure, Result.andThen_ok, invoke, builtin]
    simp [hr]
  unfold clearA at ha
  split at ha
  · rename_i ei hei
    obtain ⟨el, i, ud, z, hu, hi, hue, hz, hzk, rfl⟩ := elTI_inv hei
    simp only at ha
    split at ha
    · rename_i k b s n hx
      split at ha
      · rename_i kk rs hb
        split at ha
        · rename_i hcond
          cases ha
          obtain ⟨rfl, hle, hwf⟩ := hcond
          obtain ⟨hcl, hcd, h0, hby⟩ := wfZ_inv hwf
          have hrx := he x h1 _ hx
          have hkk : kk = i.size := by
            have e1 := hrx.sl_inv.2.1
            have e2 := (H.ok b _ hb).2.1
            omega
          subst hkk
          have hzs : z.cells.size = i.size := by rw [← (Cells.ofV (w := w) (F := F) (ρ := ρ) (N := N) z hzk).1]; exact hcl
          have hfz := flat_zero (w := w) (F := F) (ρ := ρ) (N := N) hzk hcl h0 hcd n
          have idle : n = 0 → ev x = .slice none 0 0 ∨ (∃ a cap, ev x = .slice (some a) 0 cap) → Good P o ev w F ρ N h nb ⟨some (.tup []), [(b, some (.rows i.size (over rs s (List.replicate n (cellsOf (ofV z))))))]⟩ := by
            intro hn0 hcase
            subst hn0
            refine ⟨_, w, ρ, fin (v := .tuple #[]) ?_, ?_, .inl ⟨_, rfl, fun d hd => ?_⟩⟩
            · unfold Builtin.clear_
              rcases hcase with hval | ⟨a, cap, hval⟩
              · rw [hval]; simp [run_under hu]
              · rw [hval]; simp [run_under hu]
            · simp only [List.replicate_zero, over_nil, updB_same hb]
              exact Tr.idle H nb
            · cases hd; exact .tup [] #[] rfl (by simp)
          obtain ⟨hN, hk, hmn, ⟨hvir, rfl, rfl, hval⟩ | ⟨hvir, i', cap, cs, ty, hval, hn, hii, hblk, hsize⟩⟩ := hrx.sl_inv
          · exact idle rfl (.inl hval)
          · by_cases hn0 : n = 0
            · subst hn0; exact idle rfl (.inr ⟨_, _, hval⟩)
            · have hi2 : i' = s := by omega
              subst hi2
              have hfit : (ρ b).off + i' * i.size + ((List.range (n * i.size)).map fun j => z.cells[j % z.cells.size]!).length ≤ cs.size := by
                have h7 : (i' + n) * i.size ≤ (i' + cap) * i.size := Nat.mul_le_mul_right _ (by omega)
                rw [Nat.add_mul] at h7
                simp only [List.length_map, List.length_range]
                omega
              have hstore := run_storeCells (P := P) (ρ b).blk ((ρ b).off + i' * i.size) ty _ 0 w cs hblk (by simpa using hfit) hfz.2.1
              have hzc : (Builtin.zeroCells z.cells n).toList = (List.range (n * i.size)).map fun j => z.cells[j % z.cells.size]! := by
                simp [Builtin.zeroCells, hzs]
              have hrun : (Builtin.clear_ #[t] o.type #[ev x]).run P w = .ok (.tuple #[]) (setB w (ρ b).blk (.cells (putArr cs ((ρ b).off + i' * i.size) ((List.range (n * i.size)).map fun j => z.cells[j % z.cells.size]!)) ty (0, 0))) := by
                obtain ⟨m, rfl⟩ : ∃ m, n = m + 1 := ⟨n - 1, by omega⟩
                unfold Builtin.clear_
                rw [hval]
                simp only [List.getElem?_toArray, List.getElem?_cons_zero, Sem.run_bind, run_under hu, Result.andThen_ok, run_zero hi hz, hzc, Sem.run_pure]
                rw [hstore]
                rfl
              refine ⟨_, _, ρ, fin hrun, Tr.overRows H nb hb hvir hblk (by simp; omega) hfz, .inl ⟨_, rfl, fun d hd => ?_⟩⟩
              cases hd; exact .tup [] #[] rfl (by simp)
        · cases ha
      · cases ha
    · cases ha
  · cases ha

end
end Go.Fv
/- ABSTRACT VALUES AND STATES (13): maps. -/
namespace Go.Fv

section
variable {P : Program} {o : Oper} {ev : Operand → Value} {w : World} {F : Nat → Prop} {ρ : Nat → Place} {N : Nat → Prop} {h : Nat → Option Blk} {nb : Nat}

theorem lsEq_true {a b : List DV} : ∀ {vs us : List Value}, lsEq a b = some true → a.length = vs.length → b.length = us.length →
    (∀ (i : Nat) (d : DV) (v : Value), a[i]? = some d → vs[i]? = some v → RepV w F ρ N d v) → (∀ (i : Nat) (d : DV) (v : Value), b[i]? = some d → us[i]? = some v → RepV w F ρ N d v) →
    vs = us ∧ ∀ v ∈ vs, (∃ k n, v = .int k n) ∨ (∃ q, v = .bool q) := by
  induction a generalizing b with
  | nil =>
    intro vs us he hl hl2 _ _
    cases b <;> simp [lsEq] at he
    cases vs <;> simp at hl
    cases us <;> simp at hl2
    simp
  | cons x a ih =>
    intro vs us he hl hl2 hv hu
    cases b with
    | nil => simp [lsEq] at he
    | cons y b =>
      cases vs with
      | nil => simp at hl
      | cons v vs =>
        cases us with
        | nil => simp at hl2
        | cons u us =>
          simp only [lsEq] at he
          split at he
          · rename_i p q hp hq
            simp only [Option.some.injEq, Bool.and_eq_true] at he
            obtain ⟨rfl, rfl⟩ := he
            have r1 := hv 0 x v rfl rfl
            have r2 := hu 0 y u rfl rfl
            obtain ⟨e1, e2⟩ := ih hq (by simpa using hl) (by simpa using hl2) (fun i d v h1 h2 => hv (i + 1) d v (by simpa using h1) (by simpa using h2)) (fun i d v h1 h2 => hu (i + 1) d v (by simpa using h1) (by simpa using h2))
            have e3 : v = u ∧ ((∃ k n, v = .int k n) ∨ (∃ q, v = .bool q)) := by
              unfold scEq at hp
              split at hp
              · split at hp
                · rename_i hk
                  simp only [Option.some.injEq, decide_eq_true_eq] at hp
                  subst hk; subst hp
                  rw [r1.int_inv, r2.int_inv]
                  exact ⟨rfl, .inl ⟨_, _, rfl⟩⟩
                · cases hp
              · simp only [Option.some.injEq, decide_eq_true_eq] at hp
                subst hp
                rw [r1.bool_inv, r2.bool_inv]
                exact ⟨rfl, .inr ⟨_, rfl⟩⟩
              · cases hp
            rw [e3.1, e1]
            refine ⟨rfl, fun z hz => ?_⟩
            rcases List.mem_cons.1 hz with hz | hz
            · rw [hz, ← e3.1]; exact e3.2
            · exact e2 z (by rw [e1]; exact hz)
          · cases he

theorem dvEq_true {ti : Option TI} {a b : DV} {u v : Value} (he : dvEq ti a b = some true) (ha : RepV w F ρ N a u) (hb : RepV w F ρ N b v) : u = v ∧ Instr.sameBits 10000 u v = true := by
  unfold dvEq at he
  split at he
  · split at he
    · split at he
      · obtain ⟨vs, rfl, hl1, hr1⟩ := ha.agg_inv
        obtain ⟨us, rfl, hl2, hr2⟩ := hb.agg_inv
        obtain ⟨e1, e2⟩ := lsEq_true (vs := vs.toList) (us := us.toList) he (by simpa using hl1) (by simpa using hl2) (fun i d v h1 h2 => hr1 i d v h1 (by simpa using h2)) (fun i d v h1 h2 => hr2 i d v h1 (by simpa using h2))
        have e3 : vs = us := Array.toList_inj.1 e1
        subst e3
        refine ⟨rfl, ?_⟩
        have : ∀ (l : List Value), (∀ v ∈ l, (∃ k n, v = .int k n) ∨ (∃ q, v = .bool q)) → (l.zip l).all (fun x => Instr.sameBits 9999 x.1 x.2) = true := by
          intro l
          induction l with
          | nil => intro _; rfl
          | cons x l ih =>
            intro hl
            simp only [List.zip_cons_cons, List.all_cons, ih (fun v hv => hl v (by simp [hv])), Bool.and_true]
            rcases hl x (by simp) with ⟨k, n, rfl⟩ | ⟨q, rfl⟩ <;> simp [Instr.sameBits]
        simp only [Instr.sameBits, BEq.rfl, Bool.true_and]
        exact this _ e2
      · cases he
    · cases he
  · split at he
    · split at he
      · rename_i hk
        simp only [Option.some.injEq, decide_eq_true_eq] at he
        subst hk; subst he
        rw [ha.int_inv, hb.int_inv]
        exact ⟨rfl, by simp [Instr.sameBits]⟩
      · cases he
    · cases he
  · cases he

/-- Two keys are held against each other. -/
theorem run_key_equal {kt : TypeId} {a b : DV} {u v : Value} {q : Bool} (he : dvEq (tiOf P kt) a b = some q) (ha : RepV w F ρ N a u) (hb : RepV w F ρ N b v) : (Op.equal kt u v).run P w = .ok q w := by
  unfold dvEq at he
  split at he
  · split at he
    · rename_i ks hks
      split at he
      · rename_i hkk
        simp only [Bool.and_eq_true] at hkk
        obtain ⟨vs, rfl, hl1, hr1⟩ := ha.agg_inv
        obtain ⟨us, rfl, hl2, hr2⟩ := hb.agg_inv
        cases ht : tiOf P kt with
        | none => simp [ht, flatT] at hks
        | some ti =>
          rw [ht] at hks
          exact (run_equal_flat (d := 9998) ht hks hkk.1 hkk.2 he ⟨hl1, hr1⟩ ⟨hl2, hr2⟩).1
      · cases he
    · cases he
  · split at he
    · rename_i ht
      split at he
      · rename_i hk
        subst hk
        cases he
        rw [ha.int_inv, hb.int_inv]
        show (Op.equalIn (9999 + 1) kt _ _).run P w = _
        rw [run_equalIn_int w 9999 kt _ _ _ _ (int_tk ht)]
        congr 1
      · cases he
    · cases he
  · cases he

/-- A key of a plain type may be one. -/
theorem run_checkKey_scalar {t : TypeId} {v : Value} {em : Bool} (n : Nat) (ht : scalarT P t = true) : (Instr.checkKey em (n + 1) t v).run P w = .ok () w := by
  obtain ⟨h1, _⟩ := scalarT_inv ht
  rw [Instr.checkKey]
  rcases h1 with ⟨k, h1⟩ | h1 <;> simp only [Sem.run_bind, run_under h1, Result.andThen_ok] <;> rfl

theorem run_checkKey_flat {kt : TypeId} {a : DV} {u : Value} {em : Bool} (he : (dvEq (tiOf P kt) a a).isSome = true) (ha : RepV w F ρ N a u) : (Instr.checkKey em 10000 kt u).run P w = .ok () w := by
  obtain ⟨q, he⟩ := Option.isSome_iff_exists.1 he
  unfold dvEq at he
  split at he
  · rename_i xs ys heq
    split at he
    · rename_i ks hks
      split at he
      · rename_i hkk
        simp only [Bool.and_eq_true] at hkk
        obtain ⟨vs, rfl, hl1, hr1⟩ := ha.agg_inv
        have hget := Cells.get (w := w) (F := F) (ρ := ρ) (N := N) ⟨hl1, hr1⟩
        cases ht : tiOf P kt with
        | none => simp [ht, flatT] at hks
        | some ti =>
          rw [ht] at hks
          obtain ⟨tk, sz, by_, wf, z⟩ := ti
          cases tk with
          | arr n e fl =>
            obtain ⟨inf, hu, hinf, hsz, hsc, hg, rfl⟩ := flatT_arr ht rfl hks
            have hln : vs.size = n := by
              have := kindsOk_len hkk.1
              simp at this; omega
            rw [show (10000 : Nat) = 9999 + 1 from rfl, Instr.checkKey]
            simp only [Sem.run_bind, run_under hu, Result.andThen_ok]
            simp only [Std.Legacy.Range.forIn_eq_forIn_range', Std.Legacy.Range.size, Nat.sub_zero, Nat.add_one_sub_one, Nat.div_one]
            have hall : ∀ j, j ∈ List.range' 0 n 1 → j < vs.size := by
              intro j hj
              rw [List.mem_range'] at hj
              obtain ⟨i, hi, rfl⟩ := hj
              omega
            generalize List.range' 0 n 1 = is at hall
            induction is with
            | nil => simp
            | cons j is ih =>
              have hj := hall j (by simp)
              have e1 := run_part_scalar (w := w) hsc (show vs[j]? = some vs[j] by simp [hj])
              simp only [List.forIn_cons, Sem.run_bind, run_size hinf, hsz, Nat.mul_one, Result.andThen_ok, e1, run_checkKey_scalar 9998 hsc, Sem.run_pure]
              exact ih (fun i hi => hall i (by simp [hi]))
          | struct fs fl =>
            obtain ⟨i, u, z', hi, hu, hz, hzk, e1⟩ := tiOf_inv ht
            simp only [TI.mk.injEq] at e1
            obtain ⟨fields, rfl, hfs, hall, hfl⟩ := tk_struct e1.1.symm
            simp only [flatT] at hks
            rw [hks] at hfl
            split at hfl
            · rename_i hc
              simp only [Bool.and_eq_true, Bool.not_eq_true'] at hc
              have hks' := Option.some.inj hfl
              have hln : vs.size = fields.size := by
                have := kindsOk_len hkk.1
                rw [hks'] at this
                simp at this; omega
              rw [show (10000 : Nat) = 9999 + 1 from rfl, Instr.checkKey]
              simp only [Sem.run_bind, run_under hu, Result.andThen_ok]
              rw [← Array.forIn_toList]
              have hseq := hc.1.1.2
              rw [hfs] at hseq
              have hscs : ∀ f ∈ fields.toList, scalarT P f.type = true ∧ f.name ≠ "_" := fun f hf => by
                have := Array.all_eq_true_iff_forall_mem.1 hc.1.1.1 f (Array.mem_toList_iff.1 hf)
                simpa only [Bool.and_eq_true, bne_iff_ne, ne_eq] using this
              have hoff : ∀ (l : List Field) (i : Nat), seqFrom i (l.map fun f => (f.offset, P.cellsOf f.type)) = true → i + l.length = vs.size → ∀ f ∈ l, f.offset < vs.size := by
                intro l
                induction l with
                | nil => intro i _ _ f hf; simp at hf
                | cons g l ih =>
                  intro i hs hl f hf
                  simp only [List.map_cons, seqFrom, Bool.and_eq_true, beq_iff_eq] at hs
                  rcases List.mem_cons.1 hf with rfl | hf
                  · rw [hs.1.1]; simp at hl; omega
                  · exact ih (i + 1) hs.2 (by simp at hl; omega) f hf
              have hoff' := hoff fields.toList 0 hseq (by simp [hln])
              clear hseq hoff
              generalize fields.toList = L at hscs hoff'
              induction L with
              | nil => simp
              | cons f L ih =>
                obtain ⟨hsc, hnm⟩ := hscs f (by simp)
                have hj := hoff' f (by simp)
                have e2 := run_part_scalar (w := w) hsc (show vs[f.offset]? = some vs[f.offset] by simp [hj])
                simp only [List.forIn_cons, Sem.run_bind, hnm, ne_eq, not_false_eq_true, if_true, Result.andThen_ok, e2, run_checkKey_scalar 9998 hsc, Sem.run_pure]
                exact ih (fun g hg => hscs g (by simp [hg])) (fun g hg => hoff' g (by simp [hg]))
            · cases hfl
          | _ => simp [flatT] at hks
      · cases he
    · cases he
  · split at he
    · rename_i ht
      rw [show (10000 : Nat) = 9999 + 1 from rfl, Instr.checkKey]
      simp only [Sem.run_bind, run_under (int_tk ht), Result.andThen_ok]
      rfl
    · cases he
  · cases he

/-- What a key's search comes to: the first place that has it. -/
def At (ti : Option TI) (key : DV) (es : List (DV × DV)) (r : Option (Nat × DV)) : Prop :=
  match r with
  | none => ∀ x ∈ es, dvEq ti key x.1 = some false
  | some (j, d) => ∃ x, es[j]? = some x ∧ dvEq ti key x.1 = some true ∧ x.2 = d ∧ ∀ i, i < j → ∃ y, es[i]? = some y ∧ dvEq ti key y.1 = some false

theorem findK_at {ti : Option TI} {key : DV} : ∀ {es : List (DV × DV)} {r : Option DV}, findK ti key es = some r → ∃ q, At ti key es q ∧ r = q.map (·.2) := by
  intro es
  induction es with
  | nil => intro r h; simp [findK] at h; exact ⟨none, by simp [At], by simp [← h]⟩
  | cons x es ih =>
    intro r h
    obtain ⟨k, v⟩ := x
    simp only [findK] at h
    split at h
    · rename_i b hb
      cases b with
      | true => simp only [cond_true, Option.some.injEq] at h; exact ⟨some (0, v), ⟨(k, v), rfl, hb, rfl, fun i hi => by omega⟩, by simp [← h]⟩
      | false =>
        simp only [cond_false] at h
        obtain ⟨q, hq, rfl⟩ := ih h
        cases q with
        | none =>
          refine ⟨none, ?_, rfl⟩
          intro x hx
          rcases List.mem_cons.1 hx with rfl | hx
          · exact hb
          · exact hq x hx
        | some jd =>
          obtain ⟨j, d⟩ := jd
          obtain ⟨x, h1, h2, h3, h4⟩ := hq
          refine ⟨some (j + 1, d), ⟨x, by simpa using h1, h2, h3, fun i hi => ?_⟩, rfl⟩
          cases i with
          | zero => exact ⟨(k, v), rfl, hb⟩
          | succ i => obtain ⟨y, h5, h6⟩ := h4 i (by omega); exact ⟨y, by simpa using h5, h6⟩
    · cases h

theorem updK_at {ti : Option TI} {key v : DV} : ∀ {es es' : List (DV × DV)}, updK ti key v es = some es' →
    ∃ q, At ti key es q ∧ es' = match q with | none => es ++ [(key, v)] | some (j, _) => es.set j (key, v) := by
  intro es
  induction es with
  | nil => intro es' h; simp [updK] at h; exact ⟨none, by simp [At], by simp [← h]⟩
  | cons x es ih =>
    intro es' h
    obtain ⟨k, u⟩ := x
    simp only [updK] at h
    split at h
    · rename_i b hb
      cases b with
      | true => simp only [cond_true, Option.some.injEq] at h; exact ⟨some (0, u), ⟨(k, u), rfl, hb, rfl, fun i hi => by omega⟩, by simp [← h]⟩
      | false =>
        simp only [cond_false, Option.map_eq_some_iff] at h
        obtain ⟨es2, h2, rfl⟩ := h
        obtain ⟨q, hq, rfl⟩ := ih h2
        cases q with
        | none =>
          refine ⟨none, ?_, rfl⟩
          intro x hx
          rcases List.mem_cons.1 hx with rfl | hx
          · exact hb
          · exact hq x hx
        | some jd =>
          obtain ⟨j, d⟩ := jd
          obtain ⟨x, h1, h2, h3, h4⟩ := hq
          refine ⟨some (j + 1, d), ⟨x, by simpa using h1, h2, h3, fun i hi => ?_⟩, rfl⟩
          cases i with
          | zero => exact ⟨(k, u), rfl, hb⟩
          | succ i => obtain ⟨y, h5, h6⟩ := h4 i (by omega); exact ⟨y, by simpa using h5, h6⟩
    · cases h

/-- The machine's search finds the same. -/
theorem run_findKey_at {kt : TypeId} {key : DV} {kv : Value} (hkv : RepV w F ρ N key kv) : ∀ (es : List (DV × DV)) (en : List MapEntry) (q : Option (Nat × DV)),
    es.length = en.length → (∀ (i : Nat) (x : DV × DV) (e : MapEntry), es[i]? = some x → en[i]? = some e → RepV w F ρ N x.1 e.key ∧ RepV w F ρ N x.2 e.val) →
    At (tiOf P kt) key es q → (dvEq (tiOf P kt) key key).isSome = true →
    ∃ r, (Instr.findKey kt kv en).run P w = .ok r w ∧ ((q = none ∧ r = none) ∨ ∃ j d e, q = some (j, d) ∧ en[j]? = some e ∧ r = some (j, e.val)) := by
  intro es en q hl hrep hat hself
  -- by asking
  have asking : ∀ (es : List (DV × DV)) (en : List MapEntry) (q : Option (Nat × DV)) (i : Nat), es.length = en.length →
      (∀ (i : Nat) (x : DV × DV) (e : MapEntry), es[i]? = some x → en[i]? = some e → RepV w F ρ N x.1 e.key ∧ RepV w F ρ N x.2 e.val) → At (tiOf P kt) key es q →
      ∃ r, (Instr.findAsking kt kv en i).run P w = .ok r w ∧ ((q = none ∧ r = none) ∨ ∃ j d e, q = some (j, d) ∧ en[j]? = some e ∧ r = some (i + j, e.val)) := by
    intro es
    induction es with
    | nil =>
      intro en q i hl _ hat
      cases en with
      | cons e en => simp at hl
      | nil =>
        cases q with
        | none => exact ⟨none, by simp [Instr.findAsking], .inl ⟨rfl, rfl⟩⟩
        | some jd => obtain ⟨x, h1, _⟩ := hat; simp at h1
    | cons x es ih =>
      intro en q i hl hrep hat
      cases en with
      | nil => simp at hl
      | cons e en =>
        obtain ⟨hk, hv⟩ := hrep 0 x e rfl rfl
        have hrep' := fun (i : Nat) (x : DV × DV) (e : MapEntry) (h1 : es[i]? = some x) (h2 : en[i]? = some e) => hrep (i + 1) x e (by simpa using h1) (by simpa using h2)
        have hl' : es.length = en.length := by simpa using hl
        cases q with
        | none =>
          have h0 := run_key_equal (P := P) (hat x (by simp)) hkv hk
          obtain ⟨r, hr, h3⟩ := ih en none (i + 1) hl' hrep' (fun y hy => hat y (by simp [hy]))
          refine ⟨r, by simp only [Instr.findAsking, Sem.run_bind, h0, Result.andThen_ok, Bool.false_eq_true, if_false]; exact hr, ?_⟩
          rcases h3 with h3 | ⟨j, d, e', h4, _⟩
          · exact .inl h3
          · cases h4
        | some jd =>
          obtain ⟨j, d⟩ := jd
          obtain ⟨y, h1, h2, h3, h4⟩ := hat
          cases j with
          | zero =>
            simp at h1; subst h1
            have h0 := run_key_equal (P := P) h2 hkv hk
            exact ⟨some (i, e.val), by simp only [Instr.findAsking, Sem.run_bind, h0, Result.andThen_ok, if_true, Sem.run_pure], .inr ⟨0, d, e, rfl, rfl, rfl⟩⟩
          | succ j =>
            obtain ⟨x0, h5, h6⟩ := h4 0 (by omega)
            simp at h5; subst h5
            have h0 := run_key_equal (P := P) h6 hkv hk
            obtain ⟨r, hr, h7⟩ := ih en (some (j, d)) (i + 1) hl' hrep' ⟨y, by simpa using h1, h2, h3, fun q hq => by obtain ⟨z, h8, h9⟩ := h4 (q + 1) (by omega); exact ⟨z, by simpa using h8, h9⟩⟩
            refine ⟨r, by simp only [Instr.findAsking, Sem.run_bind, h0, Result.andThen_ok, Bool.false_eq_true, if_false]; exact hr, ?_⟩
            rcases h7 with ⟨h8, _⟩ | ⟨j', d', e', h8, h9, h10⟩
            · cases h8
            · cases h8
              exact .inr ⟨j + 1, d, e', rfl, by simpa using h9, by rw [h10]; congr 2; omega⟩
  obtain ⟨b, hb⟩ := Option.isSome_iff_exists.1 hself
  unfold Instr.findKey
  cases key with
  | agg xs =>
    simp only [dvEq] at hb
    split at hb
    · rename_i ks hks
      cases ht : tiOf P kt with
      | none => simp [ht, flatT] at hks
      | some ti =>
        rw [ht] at hks
        obtain ⟨i, u, z, hi, hu, hz, hzk, e1⟩ := tiOf_inv ht
        obtain ⟨vs, rfl, _, _⟩ := hkv.agg_inv
        simp only [Sem.run_bind, run_under hu, Result.andThen_ok]
        cases en with
        | nil =>
          cases es with
          | cons x es => simp at hl
          | nil =>
            cases q with
            | none => exact ⟨none, rfl, .inl ⟨rfl, rfl⟩⟩
            | some jd => obtain ⟨x, h1, _⟩ := hat; simp at h1
        | cons e en =>
          have hnow : Instr.findNow u (.agg vs) (e :: en) 0 = none := by
            simp only [Instr.findNow]
            have : Instr.sameNow u (.agg vs) e.key = none := by
              unfold Instr.sameNow
              split <;> simp_all
            rw [this]
          rw [hnow]
          obtain ⟨r, hr, h3⟩ := asking es (e :: en) q 0 hl hrep hat
          refine ⟨r, hr, ?_⟩
          simpa using h3
    · cases hb
  | int k a =>
    simp only [dvEq] at hb
    split at hb
    · rename_i kk _ _ _ _ ht
      have hu := int_tk ht
      simp only [Sem.run_bind, run_under hu, Result.andThen_ok]
      rw [hkv.int_inv]
      have now : ∀ (es : List (DV × DV)) (en : List MapEntry) (q : Option (Nat × DV)) (i : Nat), es.length = en.length →
          (∀ (i : Nat) (x : DV × DV) (e : MapEntry), es[i]? = some x → en[i]? = some e → RepV w F ρ N x.1 e.key ∧ RepV w F ρ N x.2 e.val) → At (tiOf P kt) (.int k a) es q →
          ∃ r, Instr.findNow (.int kk) (.int k a) en i = some r ∧ ((q = none ∧ r = none) ∨ ∃ j d e, q = some (j, d) ∧ en[j]? = some e ∧ r = some (i + j, e.val)) := by
        intro es
        induction es with
        | nil =>
          intro en q i hl _ hat
          cases en with
          | cons e en => simp at hl
          | nil =>
            cases q with
            | none => exact ⟨none, by simp [Instr.findNow], .inl ⟨rfl, rfl⟩⟩
            | some jd => obtain ⟨x, h1, _⟩ := hat; simp at h1
        | cons x es ih =>
          intro en q i hl hrep hat
          cases en with
          | nil => simp at hl
          | cons e en =>
            obtain ⟨hk, hv⟩ := hrep 0 x e rfl rfl
            have hrep' := fun (i : Nat) (x : DV × DV) (e : MapEntry) (h1 : es[i]? = some x) (h2 : en[i]? = some e) => hrep (i + 1) x e (by simpa using h1) (by simpa using h2)
            have hl' : es.length = en.length := by simpa using hl
            have same : ∀ {c : Bool}, dvEq (tiOf P kt) (.int k a) x.1 = some c → Instr.sameNow (.int kk) (.int k a) e.key = some c := by
              intro c hc
              cases hx1 : x.1 with
              | int k2 a2 =>
                rw [hx1] at hc hk
                simp only [dvEq] at hc
                split at hc
                · split at hc
                  · rename_i hk12
                    subst hk12
                    rw [hk.int_inv]
                    cases hc
                    simp only [Instr.sameNow, if_true]
                    congr 1
                  · cases hc
                · cases hc
              | _ => rw [hx1] at hc; simp [dvEq] at hc
            cases q with
            | none =>
              have h0 := same (hat x (by simp))
              obtain ⟨r, hr, h3⟩ := ih en none (i + 1) hl' hrep' (fun y hy => hat y (by simp [hy]))
              refine ⟨r, by simp only [Instr.findNow, h0]; exact hr, ?_⟩
              rcases h3 with h3 | ⟨j, d, e', h4, _⟩
              · exact .inl h3
              · cases h4
            | some jd =>
              obtain ⟨j, d⟩ := jd
              obtain ⟨y, h1, h2, h3, h4⟩ := hat
              cases j with
              | zero =>
                simp at h1; subst h1
                have h0 := same h2
                exact ⟨some (i, e.val), by simp only [Instr.findNow, h0], .inr ⟨0, d, e, rfl, rfl, rfl⟩⟩
              | succ j =>
                obtain ⟨x0, h5, h6⟩ := h4 0 (by omega)
                simp at h5; subst h5
                have h0 := same h6
                obtain ⟨r, hr, h7⟩ := ih en (some (j, d)) (i + 1) hl' hrep' ⟨y, by simpa using h1, h2, h3, fun q hq => by obtain ⟨z, h8, h9⟩ := h4 (q + 1) (by omega); exact ⟨z, by simpa using h8, h9⟩⟩
                refine ⟨r, by simp only [Instr.findNow, h0]; exact hr, ?_⟩
                rcases h7 with ⟨h8, _⟩ | ⟨j', d', e', h8, h9, h10⟩
                · cases h8
                · cases h8
                  exact .inr ⟨j + 1, d, e', rfl, by simpa using h9, by rw [h10]; congr 2; omega⟩
      obtain ⟨r, hr, h3⟩ := now es en q 0 hl hrep hat
      rw [hr]
      exact ⟨r, rfl, by simpa using h3⟩
    · cases hb
  | _ => simp [dvEq] at hb

end
end Go.Fv
/- ABSTRACT VALUES AND STATES (14): map look-ups and updates; every operation does what is told of it. -/
namespace Go.Fv

section
variable {P : Program} {o : Oper} {ev : Operand → Value} {w : World} {F : Nat → Prop} {ρ : Nat → Place} {N : Nat → Prop} {h : Nat → Option Blk} {nb : Nat}

theorem good_lkp (H : HOk w F ρ N h) {e : O → OD} (he : Evs e ev w F ρ N) {t : TypeId} {x i : Operand} {ok : Bool} {eff : Eff} (ho : o.op = .lookup t x i ok)
    (h1 : okO x = true) (h2 : okO i = true) (ha : valE (lkpA (tiOf P) h t ok (e (stO x)) (e (stO i))) = some eff) : Good P o ev w F ρ N h nb eff := by
  refine Good.val H ha fun d hd => ?_
  unfold lkpA at hd
  split at hd
  · rename_i b key hx hkey
    split at hd
    · rename_i es kt et _ _ _ _ hb ht
      split at hd
      · rename_i ei hei
        split at hd
        · rename_i hself
          split at hd
          · rename_i r hfind
            cases hd
            have hm := map_tk ht
            obtain ⟨inf, u, z, hi, hu, hz, hzk, e1⟩ := tiOf_inv hei
            obtain ⟨hval, _⟩ := (he x h1 _ hx).mp_inv
            have hrk := he i h2 _ hkey
            obtain ⟨_, _, en, ck, hblk, hsz, hrep⟩ := H.ok b _ hb
            obtain ⟨q, hat, hrq⟩ := findK_at hfind
            have hrep' : ∀ (i : Nat) (x : DV × DV) (e : MapEntry), es[i]? = some x → en.toList[i]? = some e → RepV w F ρ N x.1 e.key ∧ RepV w F ρ N x.2 e.val := fun i x e h3 h4 => hrep i x e h3 (by simpa using h4)
            obtain ⟨fr, hfr, hcase⟩ := run_findKey_at (P := P) hrk es en.toList q (by simpa using hsz.symm) hrep' hat hself
            have hck := run_checkKey_flat (P := P) (em := en.isEmpty) hself hrk
            have hobj := MapKept.run_getObj_map (P := P) hblk
            have hzd : RepV w F ρ N ei.zero z := by rw [e1]; exact repOf z hzk
            rcases hcase with ⟨rfl, rfl⟩ | ⟨j, dd, ent, rfl, hent, rfl⟩
            · have hr0 : r = none := by simpa using hrq
              subst hr0
              refine ⟨if ok then .tuple #[z, .bool false] else z, ?_, ?_⟩
              · simp only [execOp, ho, hval, Instr.lookup, Sem.run_bind, run_under hm, Result.andThen_ok, hobj, Sem.run_pure, hck, hfr, run_zero hi hz]
              · cases ok
                · simpa [found] using hzd
                · simp only [cond_true, if_true, found]
                  refine .tup _ _ rfl fun i d v hd hv => ?_
                  match i, hd, hv with
                  | 0, hd, hv => simp at hd hv; subst hd; subst hv; exact hzd
                  | 1, hd, hv => simp at hd hv; subst hd; subst hv; exact .bool _
                  | (i + 2), hd, hv => simp at hd
            · obtain ⟨y, hy1, hy2, hy3, _⟩ := hat
              have hr0 : r = some dd := by simpa using hrq
              subst hr0
              have hrv := (hrep' j y ent hy1 hent).2
              rw [hy3] at hrv
              refine ⟨if ok then .tuple #[ent.val, .bool true] else ent.val, ?_, ?_⟩
              · simp only [execOp, ho, hval, Instr.lookup, Sem.run_bind, run_under hm, Result.andThen_ok, hobj, Sem.run_pure, hck, hfr]
              · cases ok
                · simpa [found] using hrv
                · simp only [cond_true, if_true, found]
                  refine .tup _ _ rfl fun i d v hd hv => ?_
                  match i, hd, hv with
                  | 0, hd, hv => simp at hd hv; subst hd; subst hv; exact hrv
                  | 1, hd, hv => simp at hd hv; subst hd; subst hv; exact .bool _
                  | (i + 2), hd, hv => simp at hd
          · cases hd
        · cases hd
      · cases hd
    · cases hd
  · cases hd

theorem good_mupd (H : HOk w F ρ N h) {e : O → OD} (he : Evs e ev w F ρ N) {t : TypeId} {m k v : Operand} {eff : Eff} (ho : o.op = .mapUpdate t m k v ∨ o.op = .insert t m k v)
    (h1 : okO m = true) (h2 : okO k = true) (h3 : okO v = true) (ha : mupdA (tiOf P) h t (e (stO m)) (e (stO k)) (e (stO v)) = some eff) : Good P o ev w F ρ N h nb eff := by
  unfold mupdA at ha
  split at ha
  · rename_i b key vd hm hkey hvd
    split at ha
    · rename_i es kt et _ _ _ _ hb ht
      split at ha
      · rename_i hself
        split at ha
        · rename_i es' hupd
          cases ha
          have hmt := map_tk ht
          obtain ⟨hval, _⟩ := (he m h1 _ hm).mp_inv
          have hrk := he k h2 _ hkey
          have hrv := he v h3 _ hvd
          obtain ⟨_, hvir, en, ck, hblk, hsz, hrep⟩ := H.ok b _ hb
          obtain ⟨q, hat, hes'⟩ := updK_at hupd
          have hrep' : ∀ (i : Nat) (x : DV × DV) (e : MapEntry), es[i]? = some x → en.toList[i]? = some e → RepV w F ρ N x.1 e.key ∧ RepV w F ρ N x.2 e.val := fun i x e h3 h4 => hrep i x e h3 (by simpa using h4)
          obtain ⟨fr, hfr, hcase⟩ := run_findKey_at (P := P) hrk es en.toList q (by simpa using hsz.symm) hrep' hat hself
          have hck := run_checkKey_flat (P := P) (em := false) hself hrk
          have hobj := MapKept.run_getObj_map (P := P) hblk
          have run : ∀ {en' : Array MapEntry} {ck' : Nat}, (Instr.mapUpdate t (ev m) (ev k) (ev v)).run P w = .ok () (setB w (ρ b).blk (.map en' ck')) →
              (execOp ev o).run P w = .ok .skip (setB w (ρ b).blk (.map en' ck')) := by
            intro en' ck' hr
            rcases ho with ho | ho <;> simp only [execOp, ho, Sem.run_bind, hr, Result.andThen_ok, Sem.run_pure]
          have fin : ∀ (en' : Array MapEntry) (ck' : Nat), (Instr.mapUpdate t (ev m) (ev k) (ev v)).run P w = .ok () (setB w (ρ b).blk (.map en' ck')) → en'.size = es'.length →
              (∀ (i : Nat) (x : DV × DV) (e : MapEntry), es'[i]? = some x → en'[i]? = some e → RepV w F ρ N x.1 e.key ∧ RepV w F ρ N x.2 e.val) →
              Good P o ev w F ρ N h nb ⟨none, [(b, some (.map es'))]⟩ := by
            intro en' ck' hr hs hrp
            have hE := Ev_setMap (en' := en') (ck' := ck') hblk
            refine ⟨_, _, ρ, run hr, Tr.put H nb hb hvir hE ⟨hvir, en', ck', setB_same (lt_of_block hblk), hs, fun i x e h4 h5 => ?_⟩, .inr ⟨rfl, rfl⟩⟩
            have mono : ∀ {d : DV} {v : Value}, RepV w F ρ N d v → RepV (setB w (ρ b).blk (.map en' ck')) F ρ N d v :=
              fun hv => hv.mono hE (fun q hq => ⟨hq, setB_ne ((H.fr q hq).2 b _ hb hvir)⟩) (fun n hn => ⟨hn, rfl⟩)
            exact ⟨mono (hrp i x e h4 h5).1, mono (hrp i x e h4 h5).2⟩
          rcases hcase with ⟨rfl, rfl⟩ | ⟨j, dd, ent, rfl, hent, rfl⟩
          · simp only at hes'
            refine fin (en.push { key := ev k, val := ev v, born := ck }) (ck + 1) ?_ (by rw [hes']; simp [hsz]) ?_
            · simp only [hval, Instr.mapUpdate, Sem.run_bind, run_under hmt, Result.andThen_ok, hobj, hck, hfr]
              exact MapKept.run_setObj_map _ hblk
            · intro i x e h4 h5
              rw [hes'] at h4
              by_cases hi : i < es.length
              · rw [List.getElem?_append_left hi] at h4
                rw [Array.getElem?_push, if_neg (by omega)] at h5
                exact hrep i x e h4 h5
              · have hi2 : i = es.length := by
                  have := (List.getElem?_eq_some_iff.1 h4).1
                  simp at this; omega
                subst hi2
                simp at h4
                rw [Array.getElem?_push, if_pos hsz.symm] at h5
                cases h5; subst h4
                exact ⟨hrk, hrv⟩
          · simp only at hes'
            obtain ⟨y, hy1, hy2, hy3, _⟩ := hat
            have hent' : en[j]? = some ent := by simpa using hent
            obtain ⟨hek, hsame⟩ := dvEq_true hy2 hrk (hrep' j y ent hy1 hent).1
            have hstay : (Instr.keyThatStays ent.key (ev k)).run P w = .ok (ev k) w := by
              unfold Instr.keyThatStays
              rw [← hek] at hsame ⊢
              simp [hsame]
            refine fin (en.modify j fun e => { e with key := ev k, val := ev v }) ck ?_ (by rw [hes']; simp [hsz]) ?_
            · simp only [hval, Instr.mapUpdate, Sem.run_bind, run_under hmt, Result.andThen_ok, hobj, hck, hfr, hent', Option.map_some, Option.getD_some, hstay]
              exact MapKept.run_setObj_map _ hblk
            · intro i x e h4 h5
              rw [hes'] at h4
              by_cases hi : i = j
              · subst hi
                rw [List.getElem?_set_self (List.getElem?_eq_some_iff.1 hy1).1] at h4
                cases h4
                rw [Array.getElem?_modify, if_pos rfl, hent'] at h5
                simp at h5; subst h5
                exact ⟨hrk, hrv⟩
              · rw [List.getElem?_set_ne (fun e => hi e.symm)] at h4
                rw [Array.getElem?_modify, if_neg (fun e => hi e.symm)] at h5
                exact hrep i x e h4 h5
        · cases ha
      · cases ha
    · cases ha
  · cases ha

/-- EVERY OPERATION THAT CALLS NOTHING DOES WHAT IS TOLD OF IT. -/
theorem act_good (H : HOk w F ρ N h) (hnb : ¬ N nb) {e : O → OD} (he : Evs e ev w F ρ N) {eff : Eff} (hok : okOp o.op = true)
    (ha : actA (tiOf P) nb e h (stOp o.op) = some eff) : Good P o ev w F ρ N h nb eff := by
  have mem : ∀ x, x ∈ o.op.operands → okO x = true := fun x hx => Array.all_eq_true_iff_forall_mem.1 hok x hx
  generalize hop : o.op = op at ha mem
  cases op with
  | move x => simp only [stOp, actA, Option.some.injEq] at ha; subst ha; exact good_mv H he (.inl hop) (mem x (by simp [Op.operands]))
  | assign x => simp only [stOp, actA, Option.some.injEq] at ha; subst ha; exact good_mv H he (.inr hop) (mem x (by simp [Op.operands]))
  | pick c a b => exact good_pick H he hop (mem c (by simp [Op.operands])) (mem a (by simp [Op.operands])) (mem b (by simp [Op.operands])) ha
  | alloc t => exact good_alloc H hnb hop ha
  | box t x => exact good_box H hnb he hop (mem x (by simp [Op.operands])) ha
  | build t ps => exact good_build H he hop (fun x hx => mem x.2 (by simp only [Op.operands]; simp; exact ⟨x.1, by simpa using hx⟩)) ha
  | buildSlice t n ps => exact good_bsl H hnb he hop (fun x hx => mem x.2 (by simp only [Op.operands]; simp; exact ⟨x.1, by simpa using hx⟩)) ha
  | insert t m k v => exact good_mupd H he (.inr hop) (mem m (by simp [Op.operands])) (mem k (by simp [Op.operands])) (mem v (by simp [Op.operands])) ha
  | load t a => exact good_load H he hop (mem a (by simp [Op.operands])) ha
  | store t a x => exact good_store H he hop (mem a (by simp [Op.operands])) (mem x (by simp [Op.operands])) ha
  | nilCheck x => exact good_nilck H he hop (mem x (by simp [Op.operands])) ha
  | binOp op t x y u => exact good_bin H he hop (mem x (by simp [Op.operands])) (mem y (by simp [Op.operands])) ha
  | unOp op t x => exact good_un H he hop (mem x (by simp [Op.operands])) ha
  | convert s d x => exact good_conv H he hop (mem x (by simp [Op.operands])) ha
  | makeFunc fn a c =>
    cases fn with
    | func f =>
      simp only [stOp, actA] at ha
      split at ha
      · rename_i a' c' h1 h2
        cases ha
        exact good_mkfn H he hop (fun x hx => mem x (by simp [Op.operands] at *; exact .inl hx)) (fun x hx => mem x (by simp [Op.operands] at *; exact .inr hx)) h1 h2
      · cases ha
    | _ => simp [stOp, actA] at ha
  | makeMap t r =>
    cases r with
    | none => simp only [stOp, actA, Option.some.injEq] at ha; subst ha; exact good_mkmap H hnb hop
    | some r => simp [stOp, actA] at ha
  | makeSlice t l c => exact good_mksl H hnb he hop (mem l (by simp [Op.operands])) (mem c (by simp [Op.operands])) ha
  | slice t x lo hi mx =>
    exact good_slice H he hop (mem x (by simp [Op.operands])) (fun y hy => mem y (by subst hy; simp [Op.operands])) (fun y hy => mem y (by subst hy; simp [Op.operands])) (fun y hy => mem y (by subst hy; simp [Op.operands])) ha
  | fieldAddr s x f => exact good_faddr H he hop (mem x (by simp [Op.operands])) ha
  | indexAddr t x i => exact good_iaddr H he hop (mem x (by simp [Op.operands])) (mem i (by simp [Op.operands])) ha
  | lookup t x i ok => exact good_lkp H he hop (mem x (by simp [Op.operands])) (mem i (by simp [Op.operands])) ha
  | mapUpdate t m k v => exact good_mupd H he (.inl hop) (mem m (by simp [Op.operands])) (mem k (by simp [Op.operands])) (mem v (by simp [Op.operands])) ha
  | extract x i => exact good_ext H he hop (mem x (by simp [Op.operands])) ha
  | call c =>
    simp only [stOp] at ha
    unfold stCall at ha
    split at ha
    · simp [actA] at ha
    · rename_i x t hc hargs htys
      exact good_len H he hop hc hargs htys (mem x (by simp only [Op.operands, Call.operands, hc]; simp [← Array.mem_toList_iff, hargs])) ha
    · rename_i x t hc hargs htys
      exact good_cap H he hop hc hargs htys (mem x (by simp only [Op.operands, Call.operands, hc]; simp [← Array.mem_toList_iff, hargs])) ha
    · rename_i x y t u hc hargs htys
      exact good_app H hnb he hop hc hargs htys (mem x (by simp only [Op.operands, Call.operands, hc]; simp [← Array.mem_toList_iff, hargs])) (mem y (by simp only [Op.operands, Call.operands, hc]; simp [← Array.mem_toList_iff, hargs])) ha
    · rename_i x y t u hc hargs htys
      exact good_copy H he hop hc hargs htys (mem x (by simp only [Op.operands, Call.operands, hc]; simp [← Array.mem_toList_iff, hargs])) (mem y (by simp only [Op.operands, Call.operands, hc]; simp [← Array.mem_toList_iff, hargs])) ha
    · rename_i x t hc hargs htys
      exact good_clear H he hop hc hargs htys (mem x (by simp only [Op.operands, Call.operands, hc]; simp [← Array.mem_toList_iff, hargs])) ha
    · rename_i x y hc hargs
      exact good_max H he hop hc hargs (mem x (by simp only [Op.operands, Call.operands, hc]; simp [← Array.mem_toList_iff, hargs])) (mem y (by simp only [Op.operands, Call.operands, hc]; simp [← Array.mem_toList_iff, hargs])) ha
    · rename_i x y hc hargs
      exact good_min H he hop hc hargs (mem x (by simp only [Op.operands, Call.operands, hc]; simp [← Array.mem_toList_iff, hargs])) (mem y (by simp only [Op.operands, Call.operands, hc]; simp [← Array.mem_toList_iff, hargs])) ha
    · simp [actA] at ha
  | _ => simp [stOp, actA] at ha

end
end Go.Fv
/- ABSTRACT VALUES AND STATES (15): one operation of a region at its turn, whatever it is (skipped, done, a call); and that what an operation comes to hangs on what it looks at alone. -/
namespace Go.Fv

/-- Names set free for an operation. -/
def Nr (N : Nat → Prop) (nb : Nat) : Nat → Prop := fun n => N n ∨ (nb ≤ n ∧ n < nb + 16)

/-- What a call comes to: its body runs, or the machine does it at once. -/
def CallsV (P : Program) (m : Sem Next) (w : World) (R : Value → World → Prop) : Prop :=
  (∃ (g : FuncId) (args : Array Value), m.run P w = .ok (.enter g args) w ∧ Calls P g args w fun e w' => ∃ v, e = .returned v ∧ R v w') ∨ ∃ v w', m.run P w = .ok (.value v) w' ∧ R v w'

/-- A call comes to d, and turns own blocks as U tells; it looks at own blocks of R alone. -/
def CallFx (P : Program) (fv : DV) (az : List DV) (h : Nat → Option Blk) (nb : Nat) (d : DV) (U : List (Nat × Option Blk)) (R : List Nat) : Prop :=
  ∀ h2 : Nat → Option Blk, (∀ n ∈ R, h2 n = h n) → ∀ (w : World) (F : Nat → Prop) (ρ : Nat → Place) (N : Nat → Prop), HOk w F ρ N h2 → (∀ n, nb ≤ n → n < nb + 16 → ¬ N n) →
    ∀ (f : Value) (vs : Array Value), RepV w F ρ N fv f → az.length = vs.size → (∀ (i : Nat) (a : DV) (v : Value), az[i]? = some a → vs[i]? = some v → RepV w F ρ N a v) →
    CallsV P (do let x ← Deferred.ofValue f vs; invoke x.target x.args) w fun v w' => ∃ (F' : Nat → Prop) (ρ' : Nat → Place), Tr w F ρ N h2 w' F' ρ' (Nr N nb) (updB h2 U) ∧ RepV w' F' ρ' (Nr N nb) d v

def gEv (g : Nat → Option DV) : O → OD
  | .t n => g n
  | .c d => some d

def updT (g : Nat → Option DV) (dst : Option Nat) (d : OD) : Nat → Option DV :=
  match dst with
  | some t => fun n => if n = t then d else g n
  | none => g

def namesD : OD → List Nat
  | some (.ptr b _ _) => [b]
  | some (.sl _ b _ _) => [b]
  | some (.mp b) => [b]
  | _ => []

def SOp.uses : SOp → List O
  | .mv x | .box _ x | .load _ x | .nilck x | .un _ x | .conv _ _ x | .faddr _ x _ | .ext x _ | .len _ x | .cap _ x | .clear _ x => [x]
  | .pick c a b => [c, a, b]
  | .alloc _ | .mkmap _ | .bad => []
  | .build _ ps | .bsl _ _ ps => ps.map (·.2)
  | .store _ a x | .bin _ _ a x | .mksl _ a x | .iaddr _ a x | .lkp _ a x _ | .app _ _ a x | .copy _ _ a x | .max a x | .min a x => [a, x]
  | .mkfn _ a c => a ++ c
  | .slice _ x lo hi mx => x :: (lo.toList ++ hi.toList ++ mx.toList)
  | .mupd _ m k v => [m, k, v]
  | .call f az => f :: az

/-- The own blocks that an operation (no call) may look at. -/
def rdOf (e : O → OD) (op : SOp) : List Nat := op.uses.flatMap fun x => namesD (e x)

inductive Fx (P : Program) (nb : Nat) (o : SO) (g : Nat → Option DV) (h : Nat → Option Blk) : OD → List (Nat × Option Blk) → List Nat → Prop
  | skip (t : Nat) (b : Bool) (hg : o.gd = some (t, b)) (hx : (∃ x, g t = some (.bool x) ∧ x ≠ b) ∨ g t = some (.tup [])) : Fx P nb o g h (some (.tup [])) [] []
  | act (eff : Eff) (hg : o.gd = none ∨ ∃ t b, o.gd = some (t, b) ∧ g t = some (.bool b)) (ha : actA (tiOf P) nb (gEv g) h o.op = some eff) :
      Fx P nb o g h eff.d eff.U (rdOf (gEv g) o.op)
  | call (f : O) (args : List O) (fv : DV) (az : List DV) (d : DV) (U : List (Nat × Option Blk)) (R : List Nat) (hg : o.gd = none ∨ ∃ t b, o.gd = some (t, b) ∧ g t = some (.bool b))
      (hop : o.op = .call f args) (hf : gEv g f = some fv) (has : allD (args.map (gEv g)) = some az) (hc : CallFx P fv az h nb d U R) : Fx P nb o g h (some d) U R

/-- The slots that an operation looks at. -/
def SO.looks (o : SO) : List Nat := (o.op.uses.filterMap fun | .t n => some n | .c _ => none) ++ (match o.gd with | some (t, _) => [t] | none => [])

section
variable {te : TE} {h h' : Nat → Option Blk}

theorem loadA_congr {ti : Option TI} {v : OD} (hh : ∀ n ∈ namesD v, h n = h' n) : loadA ti h v = loadA ti h' v := by
  cases v with
  | none => rfl
  | some d =>
    cases d with
    | ptr b r c => have := hh b (by simp [namesD]); simp only [loadA, rowOf, this]
    | _ => rfl
theorem storeA_congr {ti : Option TI} {v x : OD} (hh : ∀ n ∈ namesD v, h n = h' n) : storeA ti h v x = storeA ti h' v x := by
  cases v with
  | none => rfl
  | some d =>
    cases d with
    | ptr b r c => have := hh b (by simp [namesD]); cases x <;> simp only [storeA, this]
    | _ => rfl
theorem lkpA_congr {t : Nat} {ok : Bool} {v x : OD} (hh : ∀ n ∈ namesD v, h n = h' n) : lkpA te h t ok v x = lkpA te h' t ok v x := by
  cases v with
  | none => rfl
  | some d =>
    cases d with
    | mp b => have := hh b (by simp [namesD]); cases x <;> simp only [lkpA, this]
    | _ => rfl
theorem mupdA_congr {t : Nat} {v x y : OD} (hh : ∀ n ∈ namesD v, h n = h' n) : mupdA te h t v x y = mupdA te h' t v x y := by
  cases v with
  | none => rfl
  | some d =>
    cases d with
    | mp b => have := hh b (by simp [namesD]); cases x <;> cases y <;> simp only [mupdA, this]
    | _ => rfl
theorem lenA_congr {t : Nat} {v : OD} (hh : ∀ n ∈ namesD v, h n = h' n) : lenA te h t v = lenA te h' t v := by
  cases v with
  | none => rfl
  | some d =>
    cases d with
    | mp b => have := hh b (by simp [namesD]); simp only [lenA, this]
    | _ => rfl
theorem rowsOf_congr {k : Nat} {v : OD} (hh : ∀ n ∈ namesD v, h n = h' n) : rowsOf h k v = rowsOf h' k v := by
  cases v with
  | none => rfl
  | some d =>
    cases d with
    | sl k' b s n => have := hh b (by simp [namesD]); simp only [rowsOf, this]
    | _ => rfl
theorem appA_congr {t u nb : Nat} {x y : OD} (hx : ∀ n ∈ namesD x, h n = h' n) (hy : ∀ n ∈ namesD y, h n = h' n) : appA te h t u nb x y = appA te h' t u nb x y := by
  unfold appA
  split
  · rw [rowsOf_congr hy]
    split
    · rfl
    · split
      · cases x with
        | none => rfl
        | some d =>
          cases d with
          | sl k b s n => have := hx b (by simp [namesD]); simp only [this]
          | _ => rfl
      · rfl
    · rfl
  · rfl
theorem copyA_congr {t u : Nat} {x y : OD} (hx : ∀ n ∈ namesD x, h n = h' n) (hy : ∀ n ∈ namesD y, h n = h' n) : copyA te h t u x y = copyA te h' t u x y := by
  unfold copyA
  split
  · rw [rowsOf_congr hy]
    split
    · cases x with
      | none => rfl
      | some d =>
        cases d with
        | sl k b s n => have := hx b (by simp [namesD]); cases rowsOf h' _ y <;> simp only [this]
        | _ => rfl
    · rfl
  · rfl
theorem clearA_congr {t : Nat} {x : OD} (hx : ∀ n ∈ namesD x, h n = h' n) : clearA te h t x = clearA te h' t x := by
  cases x with
  | none => rfl
  | some d =>
    cases d with
    | sl k b s n => have := hx b (by simp [namesD]); simp only [clearA, this]
    | _ => rfl

end

theorem parts_congr {e e' : O → OD} {ps : List (Nat × O)} (he : ∀ x ∈ ps.map (·.2), e x = e' x) : (ps.map fun p => (p.1, e p.2)) = ps.map fun p => (p.1, e' p.2) := by
  apply List.map_congr_left
  intro p hp
  rw [he p.2 (List.mem_map.2 ⟨p, hp, rfl⟩)]

theorem opt_congr {e e' : O → OD} {x : Option O} (he : ∀ y ∈ x.toList, e y = e' y) : x.map e = x.map e' := by
  cases x with
  | none => rfl
  | some y => simp [he y (by simp)]

theorem actA_congr {te : TE} {nb : Nat} {e e' : O → OD} {h h' : Nat → Option Blk} {op : SOp} (he : ∀ x ∈ op.uses, e x = e' x) (hh : ∀ n ∈ rdOf e op, h n = h' n) :
    actA te nb e h op = actA te nb e' h' op := by
  have hn : ∀ x ∈ op.uses, ∀ n ∈ namesD (e x), h n = h' n := fun x hx n hn => hh n (List.mem_flatMap.2 ⟨x, hx, hn⟩)
  cases op with
  | mv x => simp only [actA, he x (by simp [SOp.uses])]
  | pick c a b => simp only [actA, he c (by simp [SOp.uses]), he a (by simp [SOp.uses]), he b (by simp [SOp.uses])]
  | alloc t => rfl
  | box t x => simp only [actA, he x (by simp [SOp.uses])]
  | build t ps => simp only [actA]; rw [parts_congr (fun x hx => he x hx)]
  | bsl t n ps => simp only [actA]; rw [parts_congr (fun x hx => he x hx)]
  | load t a => simp only [actA]; rw [loadA_congr (hn a (by simp [SOp.uses])), he a (by simp [SOp.uses])]
  | store t a x => simp only [actA]; rw [storeA_congr (hn a (by simp [SOp.uses])), he a (by simp [SOp.uses]), he x (by simp [SOp.uses])]
  | nilck x => simp only [actA, he x (by simp [SOp.uses])]
  | bin op t x y => simp only [actA, he x (by simp [SOp.uses]), he y (by simp [SOp.uses])]
  | un op x => simp only [actA, he x (by simp [SOp.uses])]
  | conv s d x => simp only [actA, he x (by simp [SOp.uses])]
  | mkfn f a c =>
    simp only [actA]
    rw [List.map_congr_left (l := a) (fun x hx => he x (by simp [SOp.uses, hx])), List.map_congr_left (l := c) (fun x hx => he x (by simp [SOp.uses, hx]))]
  | mkmap t => rfl
  | mksl t l c => simp only [actA, he l (by simp [SOp.uses]), he c (by simp [SOp.uses])]
  | slice t x lo hi mx =>
    simp only [actA]
    rw [he x (by simp [SOp.uses]), opt_congr (x := lo) (fun y hy => he y (by simp only [SOp.uses, List.mem_cons, List.mem_append]; simp [hy])),
      opt_congr (x := hi) (fun y hy => he y (by simp only [SOp.uses, List.mem_cons, List.mem_append]; simp [hy])), opt_congr (x := mx) (fun y hy => he y (by simp only [SOp.uses, List.mem_cons, List.mem_append]; simp [hy]))]
  | faddr t x f => simp only [actA, he x (by simp [SOp.uses])]
  | iaddr t x i => simp only [actA, he x (by simp [SOp.uses]), he i (by simp [SOp.uses])]
  | lkp t x i ok => simp only [actA]; rw [lkpA_congr (hn x (by simp [SOp.uses])), he x (by simp [SOp.uses]), he i (by simp [SOp.uses])]
  | mupd t m k v => simp only [actA]; rw [mupdA_congr (hn m (by simp [SOp.uses])), he m (by simp [SOp.uses]), he k (by simp [SOp.uses]), he v (by simp [SOp.uses])]
  | ext x i => simp only [actA, he x (by simp [SOp.uses])]
  | call f az => rfl
  | len t x => simp only [actA]; rw [lenA_congr (hn x (by simp [SOp.uses])), he x (by simp [SOp.uses])]
  | cap t x => simp only [actA, he x (by simp [SOp.uses])]
  | app t u x y => simp only [actA]; rw [appA_congr (hn x (by simp [SOp.uses])) (hn y (by simp [SOp.uses])), he x (by simp [SOp.uses]), he y (by simp [SOp.uses])]
  | copy t u x y => simp only [actA]; rw [copyA_congr (hn x (by simp [SOp.uses])) (hn y (by simp [SOp.uses])), he x (by simp [SOp.uses]), he y (by simp [SOp.uses])]
  | clear t x => simp only [actA]; rw [clearA_congr (hn x (by simp [SOp.uses])), he x (by simp [SOp.uses])]
  | max x y => simp only [actA, he x (by simp [SOp.uses]), he y (by simp [SOp.uses])]
  | min x y => simp only [actA, he x (by simp [SOp.uses]), he y (by simp [SOp.uses])]
  | bad => rfl

theorem mem_looks {o : SO} {x : O} {t : Nat} (hx : x ∈ o.op.uses) (ht : x = .t t) : t ∈ o.looks := by
  subst ht
  exact List.mem_append_left _ (List.mem_filterMap.2 ⟨.t t, hx, rfl⟩)

theorem gEv_congr {o : SO} {g g' : Nat → Option DV} (hg : ∀ t ∈ o.looks, g t = g' t) : ∀ x ∈ o.op.uses, gEv g x = gEv g' x := by
  intro x hx
  cases x with
  | t n => exact hg n (mem_looks hx rfl)
  | c d => rfl

/-- What an operation comes to hangs on what it looks at alone. -/
theorem Fx.congr {P : Program} {nb : Nat} {o : SO} {g g' : Nat → Option DV} {h h' : Nat → Option Blk} {d : OD} {U : List (Nat × Option Blk)} {R : List Nat} (hfx : Fx P nb o g h d U R)
    (hg : ∀ t ∈ o.looks, g t = g' t) (hh : ∀ n ∈ R, h n = h' n) : Fx P nb o g' h' d U R := by
  have hgd : ∀ {t : Nat} {b : Bool}, o.gd = some (t, b) → g t = g' t := by
    intro t b hgd
    exact hg t (List.mem_append_right _ (by rw [hgd]; simp))
  have hgd' : (o.gd = none ∨ ∃ t b, o.gd = some (t, b) ∧ g t = some (.bool b)) → (o.gd = none ∨ ∃ t b, o.gd = some (t, b) ∧ g' t = some (.bool b)) := by
    rintro (h1 | ⟨t, b, h1, h2⟩)
    · exact .inl h1
    · exact .inr ⟨t, b, h1, by rw [← hgd h1]; exact h2⟩
  cases hfx with
  | skip t b h1 h2 => exact .skip t b h1 (by rw [← hgd h1]; exact h2)
  | act eff h1 ha =>
    have e1 := gEv_congr hg
    have e2 : rdOf (gEv g) o.op = rdOf (gEv g') o.op := by
      unfold rdOf
      have : ∀ (l : List O), (∀ x ∈ l, gEv g x = gEv g' x) → (l.flatMap fun x => namesD (gEv g x)) = l.flatMap fun x => namesD (gEv g' x) := by
        intro l
        induction l with
        | nil => intro _; rfl
        | cons x l ih => intro hl; simp only [List.flatMap_cons, hl x (by simp), ih (fun y hy => hl y (by simp [hy]))]
      exact this _ e1
    rw [e2]
    exact .act eff (hgd' h1) (by rw [← actA_congr e1 hh]; exact ha)
  | call f args fv az d' _ _ h1 hop hf has hc =>
    have e1 := gEv_congr hg
    rw [hop] at e1
    refine .call f args fv az d' U R (hgd' h1) hop (by rw [← e1 f (by simp [SOp.uses])]; exact hf) ?_ ?_
    · rw [← has]
      congr 1
      exact (List.map_congr_left fun x hx => e1 x (by simp [SOp.uses, hx])).symm
    · intro h2 hh2
      exact hc h2 fun n hn => by rw [hh2 n hn, hh n hn]

end Go.Fv
/- ABSTRACT VALUES AND STATES (16): a region, in whatever order its operations come. -/
namespace Go.Fv

/-- What a call began with. -/
structure Ctx where
  P : Program
  w0 : World
  F0 : Nat → Prop
  ρ0 : Nat → Place
  N0 : Nat → Prop
  h0 : Nat → Option Blk
  nt : Nat

/-- The machine's state is as the abstract one tells. -/
def Cr (C : Ctx) (g : Nat → OD) (h : Nat → Option Blk) (N : Nat → Prop) (w : World) (tm : Array Value) : Prop :=
  tm.size = C.nt ∧ ∃ (F : Nat → Prop) (ρ : Nat → Place), Tr C.w0 C.F0 C.ρ0 C.N0 C.h0 w F ρ N h ∧ ∀ (t : Nat) (d : DV), g t = some d → ∃ v, tm[t]? = some v ∧ RepV w F ρ N d v

section
variable {C : Ctx} {g g' : Nat → OD} {h h' : Nat → Option Blk} {N N' : Nat → Prop} {w : World} {a : Act} {ops : Array Oper} {Q : Exit → Act → World → Prop}

theorem Tr.names {w0 w : World} {F0 F : Nat → Prop} {ρ0 ρ : Nat → Place} {N0 N N' : Nat → Prop} {h0 h : Nat → Option Blk} (s : Tr w0 F0 ρ0 N0 h0 w F ρ N h) (hN : ∀ n, N n → N' n) : Tr w0 F0 ρ0 N0 h0 w F ρ N' h :=
  ⟨s.H.mono_names hN, s.ev, s.same, fun n hn => ⟨hN n (s.nm n hn).1, (s.nm n hn).2⟩, s.own, s.f1, s.f2, s.os, s.tape, s.out⟩

theorem RepV.names {w : World} {F : Nat → Prop} {ρ : Nat → Place} {N N' : Nat → Prop} {d : DV} {v : Value} (hv : RepV w F ρ N d v) (hN : ∀ n, N n → N' n) : RepV w F ρ N' d v :=
  hv.mono (Ev.refl w) (fun _ ha => ⟨ha, rfl⟩) (fun n hn => ⟨hN n hn, rfl⟩)

theorem Cr.names (hc : Cr C g h N w a.tmps) (hN : ∀ n, N n → N' n) : Cr C g h N' w a.tmps := by
  obtain ⟨hs, F, ρ, T, ht⟩ := hc
  exact ⟨hs, F, ρ, T.names hN, fun t d hd => let ⟨v, h1, h2⟩ := ht t d hd; ⟨v, h1, h2.names hN⟩⟩

theorem evs_of {F : Nat → Prop} {ρ : Nat → Place} (hc : ∀ (t : Nat) (d : DV), g t = some d → ∃ v, a.tmps[t]? = some v ∧ RepV w F ρ N d v) : Evs (gEv g) a.eval w F ρ N := by
  intro x hx d hd
  cases x with
  | tmp t =>
    obtain ⟨v, h1, h2⟩ := hc t d hd
    have : a.eval (.tmp t) = v := by simp [Act.eval, h1]
    rw [this]; exact h2
  | const v =>
    simp only [stO, gEv, Option.some.injEq] at hd
    subst hd
    exact repOf v hx
  | func f =>
    simp only [stO, gEv, Option.some.injEq] at hd
    subst hd
    exact .fn f [] [] #[] #[] rfl rfl (by simp) (by simp)
  | global q =>
    simp only [stO, gEv, Option.some.injEq] at hd
    subst hd
    exact .any _ rfl

theorem get_put {dst : Option Nat} {v : Value} {t : Nat} (hlt : ∀ t, dst = some t → t < a.tmps.size) : (a.put dst v).tmps[t]? = if dst = some t then some v else a.tmps[t]? := by
  cases dst with
  | none => simp [Act.put]
  | some s =>
    simp only [Act.put]
    by_cases e : s = t
    · subst e; simp [hlt s rfl]
    · rw [Array.getElem?_setIfInBounds_ne e]; simp [e]

/-- The machine's state behind an operation. -/
theorem Cr.step {F F' : Nat → Prop} {ρ ρ' : Nat → Place} {w' : World} {h' : Nat → Option Blk} {d : OD} {v : Value} {dst : Option Nat} (hsz : a.tmps.size = C.nt)
    (T : Tr C.w0 C.F0 C.ρ0 C.N0 C.h0 w F ρ N h) (ht : ∀ (t : Nat) (d : DV), g t = some d → ∃ v, a.tmps[t]? = some v ∧ RepV w F ρ N d v)
    (S : Tr w F ρ N h w' F' ρ' N' h') (hd : ∀ y, d = some y → RepV w' F' ρ' N' y v) (hlt : ∀ t, dst = some t → t < C.nt) : Cr C (updT g dst d) h' N' w' (a.put dst v).tmps := by
  refine ⟨?_, F', ρ', T.trans S, fun t y hy => ?_⟩
  · cases dst <;> simp [Act.put, hsz]
  · rw [get_put (by rw [hsz]; exact hlt)]
    cases dst with
    | none =>
      simp only [updT] at hy
      obtain ⟨u, h1, h2⟩ := ht t y hy
      exact ⟨u, by simpa using h1, S.rep T.H h2⟩
    | some s =>
      simp only [updT] at hy
      by_cases e : t = s
      · subst e
        rw [if_pos rfl] at hy ⊢
        exact ⟨v, rfl, hd y hy⟩
      · rw [if_neg e] at hy
        obtain ⟨u, h1, h2⟩ := ht t y hy
        exact ⟨u, by rw [if_neg (by intro h5; exact e (Option.some.inj h5).symm)]; exact h1, S.rep T.H h2⟩

theorem stOper_inv {o : Oper} {so : SO} (h : stOper ops o = some so) : okOp o.op = true ∧ so.dst = o.dst ∧ so.op = stOp o.op ∧
    ((o.guard = none ∧ so.gd = none) ∨ ∃ j b t, o.guard = some (j, b) ∧ (ops[j]?).bind (·.dst) = some t ∧ so.gd = some (t, b)) := by
  unfold stOper at h
  split at h
  · rename_i hok
    split at h
    · rename_i hg
      cases h
      exact ⟨hok, rfl, rfl, .inl ⟨hg, rfl⟩⟩
    · rename_i j b hg
      split at h
      · rename_i t ht
        cases h
        exact ⟨hok, rfl, rfl, .inr ⟨j, b, t, hg, ht, rfl⟩⟩
      · cases h
  · cases h

theorem wanted_of {o : Oper} {so : SO} {t : Nat} {b x : Bool} (ho : stOper ops o = some so) (hg : so.gd = some (t, b)) (hx : a.tmps[t]? = some (.bool x)) :
    Region.wanted o (yielded ops a.tmps) = (some x == some b) := by
  obtain ⟨_, _, _, ⟨_, h2⟩ | ⟨j, b', t', h1, h2, h3⟩⟩ := stOper_inv ho
  · rw [h2] at hg; cases hg
  · rw [h3] at hg
    cases hg
    simp only [Region.wanted, h1, yielded, h2, Option.bind_some, hx]

theorem wanted_tup {o : Oper} {so : SO} {t : Nat} {b : Bool} {vs : Array Value} (ho : stOper ops o = some so) (hg : so.gd = some (t, b)) (hx : a.tmps[t]? = some (.tuple vs)) :
    Region.wanted o (yielded ops a.tmps) = false := by
  obtain ⟨_, _, _, ⟨_, h2⟩ | ⟨j, b', t', h1, h2, h3⟩⟩ := stOper_inv ho
  · rw [h2] at hg; cases hg
  · rw [h3] at hg
    cases hg
    simp only [Region.wanted, h1, yielded, h2, Option.bind_some, hx]
    rfl

theorem wanted_none {o : Oper} {so : SO} (ho : stOper ops o = some so) (hg : so.gd = none) : Region.wanted o (yielded ops a.tmps) = true := by
  obtain ⟨_, _, _, ⟨h1, _⟩ | ⟨j, b', t', h1, h2, h3⟩⟩ := stOper_inv ho
  · simp [Region.wanted, h1]
  · rw [h3] at hg; cases hg

/-- AN OPERATION AT ITS TURN. -/
theorem Fx_step {i nb : Nat} {o : Oper} {so : SO} {d : OD} {U : List (Nat × Option Blk)} {R : List Nat} (hi : ops[i]? = some o) (hso : stOper ops o = some so) (hfx : Fx C.P nb so g h d U R)
    (hc : Cr C g h N w a.tmps) (hfr : ∀ n, nb ≤ n → n < nb + 16 → ¬ N n) (hlt : ∀ t, so.dst = some t → t < C.nt) {K : Act → World → Prop}
    (hK : ∀ a' w', a'.defers = a.defers → Cr C (updT g so.dst d) (updB h U) (Nr N nb) w' a'.tmps → K a' w') : wpOp C.P ops Q i K a w := by
  obtain ⟨hsz, F, ρ, T, ht⟩ := hc
  obtain ⟨hok, hdst, hop, hgd⟩ := stOper_inv hso
  have dput : ∀ v, (a.put o.dst v).defers = a.defers := by intro v; cases o.dst <;> rfl
  have wtrue : (so.gd = none ∨ ∃ t b, so.gd = some (t, b) ∧ g t = some (.bool b)) → Region.wanted o (yielded ops a.tmps) = true := by
    rintro (h1 | ⟨t, b, h1, h2⟩)
    · exact wanted_none hso h1
    · obtain ⟨v, h3, h4⟩ := ht t _ h2
      rw [h4.bool_inv] at h3
      rw [wanted_of hso h1 h3]; simp
  have hNr : ∀ n, Nn N nb n → Nr N nb n := by
    rintro n (h1 | h1)
    · exact .inl h1
    · exact .inr (by omega)
  unfold wpOp
  simp only [hi]
  rw [hdst] at hK hlt
  cases hfx with
  | skip t b h1 h2 =>
    have hw : Region.wanted o (yielded ops a.tmps) = false := by
      rcases h2 with ⟨x, h2, h3⟩ | h2
      · obtain ⟨v, h4, h5⟩ := ht t _ h2
        rw [h5.bool_inv] at h4
        rw [wanted_of hso h1 h4]
        simpa using h3
      · obtain ⟨v, h4, h5⟩ := ht t _ h2
        obtain ⟨vs, rfl, _, _⟩ := h5.tup_inv
        exact wanted_tup hso h1 h4
    simp only [hw, Bool.false_eq_true, if_false]
    refine hK _ _ (dput _) (Cr.step hsz T ht (Tr.names (Tr.refl T.H) (fun n hn => .inl hn)) (by intro y hy; cases hy; exact .tup [] #[] rfl (by simp)) hlt)
  | act eff h1 ha =>
    simp only [wtrue h1, if_true]
    refine .inl ?_
    rw [hop] at ha
    obtain ⟨nx, w', ρ', hrun, hT, hv⟩ := act_good (P := C.P) (o := o) (ev := a.eval) T.H (hfr nb (Nat.le_refl _) (by omega)) (evs_of ht) hok ha
    unfold Oper.wp
    rw [hrun]
    have hT' := hT.names hNr
    rcases hv with ⟨v, rfl, hv⟩ | ⟨rfl, hv⟩
    · exact hK _ _ (dput _) (Cr.step hsz T ht hT' (fun y hy => (hv y hy).names hNr) hlt)
    · exact hK _ _ (dput _) (Cr.step hsz T ht hT' (fun y hy => by rw [hv] at hy; cases hy) hlt)
  | call f args fv az d' _ _ h1 hcall hf has hcf =>
    simp only [wtrue h1, if_true]
    refine .inl ?_
    unfold Oper.wp
    -- the machine's operation is a call of a value
    have hcv : ∃ (c : Call) (f' : Operand), o.op = .call c ∧ c.callee = .value f' ∧ f = stO f' ∧ args = c.args.toList.map stO := by
      rw [hop] at hcall
      cases hoo : o.op with
      | call c =>
        rw [hoo] at hcall
        simp only [stOp] at hcall
        unfold stCall at hcall
        split at hcall <;> first | (cases hcall; done) | skip
        rename_i f' hcal
        cases hcall
        exact ⟨c, f', rfl, hcal, rfl, rfl⟩
      | makeFunc fn x y => rw [hoo] at hcall; cases fn <;> simp [stOp] at hcall
      | makeMap t r => rw [hoo] at hcall; cases r <;> simp [stOp] at hcall
      | _ => rw [hoo] at hcall; simp [stOp] at hcall
    obtain ⟨c, f', hoo, hcal, rfl, rfl⟩ := hcv
    have mem : ∀ x, x ∈ o.op.operands → okO x = true := fun x hx => Array.all_eq_true_iff_forall_mem.1 hok x hx
    have okf : okO f' = true := mem f' (by rw [hoo]; simp [Op.operands, Call.operands, hcal])
    have hevs := evs_of ht
    have hrf := hevs f' okf fv hf
    obtain ⟨hl, hra⟩ := all_operands hevs (xs := c.args.toList) (fun x hx => mem x (by rw [hoo]; simp only [Op.operands, Call.operands]; rw [Array.mem_append]; exact .inr (Array.mem_toList_iff.1 hx))) has
    have hall := hcf h (fun _ _ => rfl) w F ρ N T.H hfr (a.eval f') (c.args.map a.eval) hrf (by simpa using hl) (fun i x v hx hv => hra i x v hx (by simpa using hv))
    have hexec : (execOp a.eval o).run C.P w = (do let x ← Deferred.ofValue (a.eval f') (c.args.map a.eval); invoke x.target x.args : Sem Next).run C.P w := by
      simp only [execOp, hoo, resolve, hcal]
    rw [hexec]
    rcases hall with ⟨gi, gargs, hrun, hcalls⟩ | ⟨v, w', hrun, F', ρ', hT, hv⟩
    · rw [hrun, Oper.upon_enter]
      refine hcalls.mono ?_
      rintro e w' ⟨v, rfl, F', ρ', hT, hv⟩
      exact hK _ _ (dput _) (Cr.step hsz T ht hT (fun y hy => by cases hy; exact hv) hlt)
    · rw [hrun]
      exact hK _ _ (dput _) (Cr.step hsz T ht hT (fun y hy => by cases hy; exact hv) hlt)

end
end Go.Fv
