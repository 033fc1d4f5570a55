/- RL, fourth text: what operations come to. -/
import Derived.Test.YtpahclogghdnpaaDoorzA64KindsRLG
namespace Go.Proofs.YtpahclogghdnpaaDoorRL
open Go
set_option linter.unusedVariables false
set_option linter.unusedSimpArgs false
variable {Δ : List Deferred}
def getTL (t : List (Nat × V)) : List Operand → Option (List V)
  | [] => some []
  | x :: xs => match getT t x, getTL t xs with
    | some v, some vs => some (v :: vs)
    | _, _ => none
def getTP (t : List (Nat × V)) : List (Nat × Operand) → Option (List (Nat × V))
  | [] => some []
  | x :: xs => match getT t x.2, getTP t xs with
    | some v, some vs => some ((x.1, v) :: vs)
    | _, _ => none
def St.getL (st : St) (xs : List Operand) : Option (List V) := getTL st.t xs
def St.getP (st : St) (xs : List (Nat × Operand)) : Option (List (Nat × V)) := getTP st.t xs
def vFill (place : Nat → Option (Nat × Nat)) (cells : List V) : List (Nat × V) → Option (List V)
  | [] => some cells
  | p :: rest => match place p.1 with
    | none => none
    | some (off, size) => match Nat.beq p.2.cells.length size && Nat.ble (off + size) cells.length with
      | true => vFill place (setR cells off p.2.cells) rest
      | false => none
def vPlaces (P : Program) : List Field → Option (List (Nat × Nat))
  | [] => some []
  | f :: fs => match P.info? f.type, vPlaces P fs with
    | some i, some l => some ((f.offset, i.size) :: l)
    | _, _ => none
def vZero (P : Program) (t : TypeId) : Option (List V) :=
  match P.info? t with
  | some i => match i.zero with
    | some z => some (V.raw z).cells
    | none => none
  | none => none
def vBuild (P : Program) (t : TypeId) (parts : List (Nat × V)) : Option V :=
  match vZero P t, P.underlying t with
  | some zero, some (.struct fields) => match vPlaces P fields.toList with
    | some pl => match vFill (fun i => pl[i]?) zero parts with
      | some cs => some (.agg cs)
      | none => none
    | none => none
  | some zero, some (.array _ elem) => match P.info? elem with
    | some i => match vFill (fun k => some (k * i.size, i.size)) zero parts with
      | some cs => some (.agg cs)
      | none => none
    | none => none
  | _, _ => none
/-- Zeros, one behind the other: a list of n of them where an element is one cell. -/
def vZeros (zero : List V) (size n : Nat) : List V :=
  match size with
  | 1 => List.replicate n (zero.headD (.raw undef))
  | _ => (List.range (n * size)).map fun i => zero.getD (i % zero.length) (.raw undef)
def vBounds {R : Type} (no : R) (k : IntKind) (i : Int) (y : Nat) (K : Nat → R) : R := Br (decide (0 ≤ i)) (Br (decide (i ≤ (y : Int))) (K i.toNat) no) no
def vOpt {R : Type} (no : R) (t : List (Nat × V)) (x : Option Operand) (K : Option V → R) : R :=
  match x with
  | none => K none
  | some x => Wi no (getT t x) fun v => K (some v)
def vBoundsO {R : Type} (no : R) (x : Option V) (d y : Nat) (K : Nat → R) : R :=
  match x with
  | none => K d
  | some (.raw (.int k i)) => vBounds no k i y K
  | some _ => no
def V.isNilable : V → Bool
  | .ptr _ _ | .ifc _ _ | .mp _ | .sl _ _ _ _ | .lst _ _ _ _ _ | .el _ _ _ _ | .sle _ _ _ _ _ | .lse _ _ _ _ _ | .lend _ _ _ _ _ _ => true
  | .fn (.func _) _ _ => true
  | .raw v => match v with
    | .pointer none | .nilIface | .nilFunc | .func _ _ _ => false
    | _ => true
  | _ => false
def slOff (o l m s : Nat) : Nat :=
  match l with
  | 0 => o
  | l + 1 => match Nat.beq m (l + 1) with
    | true => o
    | false => o + (l + 1) * s
def mxCap (mx : Option V) (m cap : Nat) : Nat :=
  match mx with
  | some _ => m
  | none => cap
/-- Is there room for n elements in the block of a list, by what is known? -/
def lstFits (s : Sto) (i k n : Nat) : Bool :=
  match s[i]? with
  | some (.lst cs _ k' z) => Nat.beq k k' && (Nat.blt 0 z && Nat.ble (n * z) cs.length)
  | _ => false
/-- The same of an array's. -/
def lseFits {R : Type} (no : R) (s : Sto) (i k z n : Nat) (K : R) : R :=
  match s[i]? with
  | some (.arr (.grow k') cols N _) => match Nat.beq k k' && (Nat.beq z cols.length && Nat.blt 0 z) with
    | true => Br (Nat.ble n N) K no
    | false => no
  | _ => no
/-- A slice of a slice: from element e (of z cells each) on. -/
def sleCut {R : Type} (no : R) (i z k0 len cap : Nat) (lo hi mx : Option V) (K : V → R) : R :=
  match mx, hi with
  | some _, none => no
  | _, _ => vBoundsO no mx cap cap fun m => vBoundsO no hi len (mxCap mx m cap) fun h => vBoundsO no lo 0 h fun l =>
    Br (Nat.beq l 0) (K (.sle i z k0 h m)) (Br (Nat.beq m l) (K (.sle i z k0 (h - l) (m - l))) (K (.sle i z (l + k0) (h - l) (m - l))))
def lseCut {R : Type} (no : R) (i k z e len : Nat) (lo hi : Option V) (K : V → R) : R :=
  vBoundsO no hi len len fun h => vBoundsO no lo 0 h fun l =>
    Br (Nat.beq l 0) (K (.lse i k z e h)) (Br (Nat.blt l len) (K (.lse i k z (l + e) (h - l))) (K (.lend i k (e * z) e l z)))
/-- Operations that change nothing. -/
def stillOp : Op → Bool
  | .move _ | .assign _ | .pick _ _ _ | .build _ _ | .load _ _ | .nilCheck _ | .binOp _ _ _ _ _ | .unOp _ _ _ | .convert _ _ _ | .makeInterface _ _ | .makeFunc _ _ _ | .slice _ _ _ _ _ | .fieldAddr _ _ _ | .field _ _ _ | .indexAddr _ _ _ | .index _ _ _ | .typeAssert _ _ _ _ | .extract _ _ | .lookup _ _ _ _ => true
  | _ => false
/-- A place told apart: one way for each that it may be. -/
def splI {R : Type} (i : Int) (K : Nat → R) : Nat → Nat → R
  | 0, k => K k
  | n + 1, k => Br (decide (i = (k : Int))) (K k) (splI i K n (k + 1))
theorem splI_out {R : Type} {T : R → Prop} {i : Int} {K : Nat → R} : ∀ {n k : Nat}, (k : Int) ≤ i → i ≤ ((k + n : Nat) : Int) → T (splI i K n k) → T (K i.toNat) := by
  intro n
  induction n with
  | zero => intro k h0 h1 h; rw [show i.toNat = k by omega]; exact h
  | succ n ih =>
    intro k h0 h1 h
    rcases Br.out h with ⟨h2, h⟩ | ⟨h2, h⟩
    · have := of_decide_eq_true h2
      rw [show i.toNat = k by omega]; exact h
    · have := of_decide_eq_false h2
      exact ih (k := k + 1) (by omega) (by omega) h
/-- Keys. -/
def vKeyEq (P : Program) (d : TypeDesc) (kt : TypeId) (k key : V) : Option Bool :=
  match d with
  | .int _ => match k, key with
    | .raw (.int a x), .raw (.int b y) => match kindEq a b with
      | true => some (x == y)
      | false => none
    | _, _ => none
  | .string => match k, key with
    | .raw (.string x), .raw (.string y) => some (x == y)
    | _, _ => none
  | .bool => match k, key with
    | .raw (.bool x), .raw (.bool y) => some (x == y)
    | _, _ => none
  | .struct _ | .array _ _ => vEq P 10000 kt k key
  | _ => none
def vFindK {R : Type} (no : R) (P : Program) (d : TypeDesc) (kt : TypeId) (k : V) (found : Nat → V × V × Nat → R) (none_ : R) : List (V × V × Nat) → Nat → R
  | [], _ => none_
  | e :: es, i => Wi no (vKeyEq P d kt k e.1) fun b => Br b (found i e) (vFindK no P d kt k found none_ es (i + 1))
def vCheckF (ck : TypeId → V → Bool) (P : Program) (cs : List V) : List Field → Bool
  | [] => true
  | f :: fs => match f.name == "_" with
    | true => vCheckF ck P cs fs
    | false => match vPart P f.type cs f.offset with
      | some a => match ck f.type a with
        | true => vCheckF ck P cs fs
        | false => false
      | none => false
/-- May a value be a key? -/
def vCheck (P : Program) (d : Nat) : TypeId → V → Bool :=
  Nat.rec (fun _ _ => false) (fun _ ck t v => match P.underlying t with
    | some .bool | some (.int _) | some .string => true
    | some (.struct fs) => match v with
      | .agg cs => vCheckF ck P cs fs.toList
      | _ => false
    | _ => false) d
def vBit (x y : V) : Bool :=
  match x, y with
  | .raw (.int a m), .raw (.int b n) => kindEq a b && m == n
  | .raw (.string m), .raw (.string n) => m == n
  | .raw (.bool m), .raw (.bool n) => m == n
  | _, _ => false
def vBitL : List V → List V → Bool
  | [], [] => true
  | x :: xs, y :: ys => vBit x y && vBitL xs ys
  | _, _ => false
def vBits (x y : V) : Bool :=
  match x, y with
  | .agg xs, .agg ys => vBitL xs ys
  | x, y => vBit x y
/-- A method of an interface value, bound: its receiver is none that is nil. -/
def nilM (P : Program) (v : V) : Bool :=
  match v with
  | .fn (.method name) (x :: _) _ => match x.nf with
    | .ifc t _ => match P.info? t with
      | some i => match i.methods.find? (·.name == name) with
        | some m => m.path.isEmpty && match m.func with
          | some (_, true) => true
          | some (_, false) => match P.underlying t with
            | some (.pointer _) => false
            | some _ => true
            | none => false
          | none => false
        | none => false
      | none => false
    | _ => false
  | _ => false
/-- Has a type all methods that are asked for? -/
def hasAll (want : Array (String × TypeId)) (got : Array Method) : Bool := (want.toList.filter fun (name, sig) => !got.any fun m => m.name == name && m.sig == sig).isEmpty
theorem hasAll_ok (want : Array (String × TypeId)) (got : Array Method) : (Instr.missingMethod want got).isNone = hasAll want got := by
  unfold Instr.missingMethod hasAll
  have least_some : ∀ l : List String, (Instr.least l).isNone = l.isEmpty := by intro l; cases l <;> rfl
  generalize (want.toList.filter fun (name, sig) => !got.any fun m => m.name == name && m.sig == sig) = l
  have hp : ∀ (p : String → Bool) (m : List String), ((m.partition p).1.isEmpty && (m.partition p).2.isEmpty) = m.isEmpty := by
    intro p m
    rw [List.partition_eq_filter_filter]
    cases m with
    | nil => rfl
    | cons x xs =>
      by_cases hpx : p x = true
      · rw [List.filter_cons_of_pos hpx]; rfl
      · have hpn : (not ∘ p) x = true := by simp only [Function.comp_apply, Bool.not_eq_true] at hpx ⊢; rw [hpx]; rfl
        rw [List.filter_cons_of_pos hpn]; simp
  have := hp (·.contains '.') (l.map (·.1))
  have hl : (l.map (·.1)).isEmpty = l.isEmpty := by cases l <;> rfl
  rw [hl] at this
  rw [← this]
  simp only
  generalize ((l.map (·.1)).partition (·.contains '.')).1 = a
  generalize ((l.map (·.1)).partition (·.contains '.')).2 = b
  cases b with
  | nil =>
    show (Instr.least (a.map _)).isNone = _
    rw [least_some]
    cases a <;> rfl
  | cons y ys => cases a <;> rfl
def vEntries (s : Sto) (m : V) : Option (List (V × V × Nat)) :=
  match m with
  | .raw (.map none) => some []
  | .mp i => match s[i]? with
    | some (.map es _) => some es
    | _ => none
  | _ => none
/-- A value's operation. -/
def valOpT {R : Type} (no : R) (P : Program) (op : Op) (e : List (Nat × V)) (s : Sto) (K : Kt R) : R :=
  match op with
  | .move x | .assign x => Wi no (getT e x) fun v => K v s
  | .pick c a b => Wi no (getT e c) fun c => Wi no (getT e a) fun x => Wi no (getT e b) fun y =>
    match c with
    | .raw (.bool t) => Br t (K x s) (K y s)
    | _ => no
  | .alloc t => Wi no (vZero P t) fun z => K (.ptr s.length 0) (s ++ [.own z t])
  | .box t x => Wi no (getT e x) fun v => K (.ptr s.length 0) (s ++ [.own v.cells t])
  | .build t parts => Wi no (getTP e parts.toList) fun ps => Wi no (vBuild P t ps) fun v => K v s
  | .buildSlice t len parts => Wi no (getTP e parts.toList) fun ps =>
    match P.underlying t with
    | some (.slice elem) => Wi no (P.info? elem) fun i => match Nat.ble (len * i.size) 16777216 with
      | true => Wi no (vZero P elem) fun z => match Nat.beq z.length i.size with
        | true => Wi no (vFill (fun k => some (k * i.size, i.size)) (vZeros z i.size len) ps) fun cs => K (.sl s.length 0 len len) (s ++ [.own cs elem])
        | false => no
      | false => no
    | _ => no
  | .load t a => Wi no (getT e a) fun a => match a with
    | .ptr i o => Wi no (vLoad P t s i o) fun v => K v s
    | .el i z k f => vLoadE no P t s i z k f fun v => K v s
    | _ => no
  | .store t a x => Wi no (getT e a) fun a => Wi no (getT e x) fun v => match a with
    | .ptr i o => Wi no (vStore P t s i o v) fun s' => K (.raw undef) s'
    | .el i z k f => vStoreE no P t s i z k f v fun s' => K (.raw undef) s'
    | _ => no
  | .nilCheck x => Wi no (getT e x) fun v => match v.isNilable || nilM P v with
    | true => K v s
    | false => no
  | .binOp op t x y _ => Wi no (getT e x) fun x => Wi no (getT e y) fun y => vBin no P op t x y fun v => K v s
  | .unOp op _ x => Wi no (getT e x) fun x => match op, x with
    | .not, .raw (.bool b) => K (.raw (.bool (!b))) s
    | .neg, .raw (.int k n) => K (.raw (.int k (k.wrap (0 - n)))) s
    | .xor, .raw (.int k n) => K (.raw (.int k (Go.bits .xor k (if k.signed then -1 else k.max) n))) s
    | _, _ => no
  | .convert src dst x => Wi no (P.underlying src) fun _ => Wi no (P.underlying dst) fun d => Wi no (getT e x) fun x => match d, x with
    | .int k, .raw (.int _ n) => K (.raw (.int k (k.wrap n))) s
    | _, _ => no
  | .makeInterface t x => Wi no (P.underlying t) fun d => Wi no (getT e x) fun v => match d with
    | .interface _ => no
    | _ => K (.ifc t v) s
  | .makeFunc f first captured => Wi no (getTL e first.toList) fun a => Wi no (getTL e captured.toList) fun b => K (.fn f a b) s
  | .makeSlice t len cap => Wi no (getT e len) fun l => Wi no (getT e cap) fun c =>
    match P.underlying t, l, c with
    | some (.slice elem), .raw (.int _ l), .raw (.int _ c) => Wi no (P.info? elem) fun i => Wi no (vZero P elem) fun z => match Nat.beq z.length i.size with
      | false => no
      | true => Br (decide (0 ≤ l ∧ l ≤ c ∧ (i.bytes : Int) * c ≤ 281474976710656 ∧ c ≤ 9223372036854775807)) (match colsNE z with
        | some cols => K (.sle s.length i.size 0 l.toNat c.toNat) (s ++ [.arr .own cols c.toNat elem])
        | none => K (.sl s.length 0 l.toNat c.toNat) (s ++ [.own (vZeros z i.size c.toNat) elem])) no
    | _, _, _ => no
  | .slice t x lo hi mx => Wi no (P.underlying t) fun d => Wi no (getT e x) fun x => vOpt no e lo fun lo => vOpt no e hi fun hi => vOpt no e mx fun mx =>
    match d, x with
    | .string, .raw (.string y) => match mx with
      | none => vBoundsO no hi y.size y.size fun h => vBoundsO no lo 0 h fun l => K (.raw (.string (y.extract l h))) s
      | some _ => no
    | .slice elem, .sl i o len cap => Wi no (P.info? elem) fun inf => match mx, hi with
      | some _, none => no
      | _, _ => vBoundsO no mx cap cap fun m => vBoundsO no hi len (mxCap mx m cap) fun h => vBoundsO no lo 0 h fun l =>
        K (.sl i (slOff o l m inf.size) (h - l) (m - l)) s
    | .slice elem, .lst i k o e len => Wi no (P.info? elem) fun inf => match mx with
      | some _ => no
      | none => match lstFits s i k (e + len) with
        | true => vBoundsO no hi len len fun h => vBoundsO no lo 0 h fun l => match Nat.blt l len || Nat.beq l 0 with
          | true => K (.lst i k (o + l * inf.size) (e + l) (h - l)) s
          | false => K (.lend i k o e l inf.size) s
        | false => no
    | .slice elem, .sle i z k0 len cap => Wi no (P.info? elem) fun inf => match Nat.beq inf.size z with
      | true => sleCut no i z k0 len cap lo hi mx fun v => K v s
      | false => no
    | .slice elem, .lse i k z e len => Wi no (P.info? elem) fun inf => match mx with
      | some u => match Nat.beq inf.size z with
        | true => lseFits no s i k z (e + len) (sleCut no i z e len len lo hi (some u) fun v => K v s)
        | false => no
      | none => match Nat.beq inf.size z with
        | true => lseFits no s i k z (e + len) (lseCut no i k z e len lo hi fun v => K v s)
        | false => no
    | .array n elem, .ptr i o => Wi no (P.info? elem) fun inf => match mx with
      | some _ => no
      | none => vBoundsO no hi n n fun h => vBoundsO no lo 0 h fun l =>
        K (.sl i (slOff o l n inf.size) (h - l) (n - l)) s
    | _, _ => no
  | .fieldAddr t x f => match P.underlying t with
    | some (.struct fields) => Wi no fields[f]? fun fd => Wi no (P.info? fd.type) fun i => Wi no (getT e x) fun a => match a with
      | .ptr j o => match Nat.beq i.size 0 with
        | true => no
        | false => K (.ptr j (o + fd.offset)) s
      | .el j z k o => match Nat.beq i.size 0 with
        | true => no
        | false => K (.el j z k (o + fd.offset)) s
      | _ => no
    | _ => no
  | .field t x f => match P.underlying t with
    | some (.struct fields) => Wi no fields[f]? fun fd => Wi no (getT e x) fun a => match a with
      | .agg cs => Wi no (vPart P fd.type cs fd.offset) fun v => K v s
      | _ => no
    | _ => no
  | .indexAddr t x ix => Wi no (P.underlying t) fun d => Wi no (getT e x) fun x => Wi no (getT e ix) fun ix => match d, x, ix with
    | .array len elem, .ptr j o, .raw (.int k i) => Wi no (P.info? elem) fun inf => Br (decide (0 ≤ i)) (Br (decide (i < (len : Int))) (match Nat.ble len 32 with
      | true => splI i (fun r => K (.ptr j (o + r * inf.size)) s) (Nat.sub len 1) 0
      | false => K (.ptr j (o + i.toNat * inf.size)) s) no) no
    | .slice elem, .sl j o len _, .raw (.int k i) => Wi no (P.info? elem) fun inf => Br (decide (0 ≤ i)) (Br (decide (i < (len : Int))) (K (.ptr j (o + i.toNat * inf.size)) s) no) no
    | .slice elem, .lst j _ o _ len, .raw (.int k i) => Wi no (P.info? elem) fun inf => Br (decide (0 ≤ i)) (Br (decide (i < (len : Int))) (K (.ptr j (o + i.toNat * inf.size)) s) no) no
    | .slice elem, .sle j z k0 len _, .raw (.int k i) => Wi no (P.info? elem) fun inf => match Nat.beq inf.size z with
      | true => Br (decide (0 ≤ i)) (Br (decide (i < (len : Int))) (K (.el j z (i.toNat + k0) 0) s) no) no
      | false => no
    | .slice elem, .lse j _ z e len, .raw (.int k i) => Wi no (P.info? elem) fun inf => match Nat.beq inf.size z with
      | true => Br (decide (0 ≤ i)) (Br (decide (i < (len : Int))) (K (.el j z (i.toNat + e) 0) s) no) no
      | false => no
    | .array len elem, .el j z q o, .raw (.int k i) => Wi no (P.info? elem) fun inf => Br (decide (0 ≤ i)) (Br (decide (i < (len : Int))) (match Nat.ble len 32 with
      | true => splI i (fun r => K (.el j z q (o + r * inf.size)) s) (Nat.sub len 1) 0
      | false => K (.el j z q (o + i.toNat * inf.size)) s) no) no
    | _, _, _ => no
  | .index t x ix => Wi no (P.underlying t) fun d => Wi no (getT e x) fun x => Wi no (getT e ix) fun ix => match d, x, ix with
    | .array len elem, .agg cs, .raw (.int k i) => Wi no (P.info? elem) fun inf => Br (decide (0 ≤ i)) (Br (decide (i < (len : Int))) (match Nat.ble len 32 with
      | true => splI i (fun r => Wi no (vPart P elem cs (r * inf.size)) fun v => K v s) (Nat.sub len 1) 0
      | false => Wi no (vPart P elem cs (i.toNat * inf.size)) fun v => K v s) no) no
    | .string, .raw (.string y), .raw (.int k i) => Br (decide (0 ≤ i)) (Br (decide (i < (y.size : Int))) (K (.raw (.int .u8 (y.get! i.toNat).toNat)) s) no) no
    | _, _, _ => no
  | .typeAssert x xType asserted ok => Wi no (P.underlying asserted) fun d => Wi no (getT e x) fun x => match d, x.nf with
    | .interface want, .ifc t v => Wi no (P.info? t) fun i => match hasAll want i.methods with
      | true => K (if ok then .tup [x, .raw (.bool true)] else x) s
      | false => match ok with
        | true => Wi no (P.info? asserted) fun j => Wi no j.zero fun z => K (.tup [ofVal z, .raw (.bool false)]) s
        | false => no
    | .interface _, _ => no
    | _, .ifc t v => match Nat.beq t asserted with
      | true => K (if ok then .tup [v, .raw (.bool true)] else v) s
      | false => match ok with
        | true => Wi no (P.info? asserted) fun j => Wi no j.zero fun z => K (.tup [ofVal z, .raw (.bool false)]) s
        | false => no
    | _, _ => no
  | .extract t ix => Wi no (getT e t) fun t => match t with
    | .tup vs => Wi no vs[ix]? fun v => K v s
    | _ => no
  | .lookup t x ix ok => match P.underlying t with
    | some (.map kt el) => Wi no (getT e x) fun m => Wi no (getT e ix) fun k => Wi no (vEntries s m) fun es => Wi no (P.underlying kt) fun d => match vCheck P 10 kt k with
      | true => vFindK no P d kt k (fun _ en => K (if ok then .tup [en.2.1, .raw (.bool true)] else en.2.1) s)
        (Wi no (P.info? el) fun inf => Wi no inf.zero fun z => K (if ok then .tup [ofVal z, .raw (.bool false)] else ofVal z) s) es 0
      | false => no
    | _ => no
  | .mapUpdate t m k x | .insert t m k x => match P.underlying t with
    | some (.map kt el) => Wi no (getT e m) fun m => Wi no (getT e k) fun k => Wi no (getT e x) fun x => Wi no (P.underlying kt) fun d => match m with
      | .mp i => match s[i]? with
        | some (.map es c) => match vCheck P 10 kt k with
          | true => vFindK no P d kt k (fun j en => match vBits en.1 k with
              | true => K (.raw undef) (s.set i (.map (es.set j (k, x, en.2.2)) c))
              | false => no)
            (K (.raw undef) (s.set i (.map (es ++ [(k, x, c)]) (c + 1)))) es 0
          | false => no
        | _ => no
      | _ => no
    | _ => no
  | .makeMap t r => match r with
    | none => K (.mp s.length) (s ++ [.map [] 0])
    | some r => match P.underlying t with
      | some (.map _ _) => Wi no (getT e r) fun r => match r with
        | .raw (.int _ _) => K (.mp s.length) (s ++ [.map [] 0])
        | _ => no
      | _ => no
  | _ => no
def valOp {R : Type} (no : R) (P : Program) (op : Op) (st : St) (K : Kt R) : R := valOpT no P op st.t st.s K
section
variable {P : Program} {ρ : Rho} {w : World} {st : St} {a : Act}
theorem Sim.evalL (h : Sim Δ ρ st a w) : ∀ {xs : List Operand} {vs : List V}, st.getL xs = some vs → xs.map a.eval = absL ρ vs ∧ bdL st.s.length vs := by
  intro xs
  induction xs with
  | nil => intro vs hv; simp only [St.getL, getTL, Option.some.injEq] at hv; subst hv; simp [absL, bdL]
  | cons x xs ih =>
    intro vs hv
    simp only [St.getL, getTL] at hv
    split at hv
    · rename_i v vs' h1 h2
      simp only [Option.some.injEq] at hv
      subst hv
      obtain ⟨e1, e2⟩ := h.eval h1
      obtain ⟨e3, e4⟩ := ih h2
      exact ⟨by simp [absL, e1, e3], e2, e4⟩
    · cases hv
def absP (ρ : Rho) (ps : List (Nat × V)) : List (Nat × Value) := ps.map fun p => (p.1, p.2.abs ρ)
theorem Sim.evalP (h : Sim Δ ρ st a w) : ∀ {xs : List (Nat × Operand)} {ps : List (Nat × V)}, st.getP xs = some ps → (xs.map fun x => (x.1, a.eval x.2)) = absP ρ ps ∧ ∀ p ∈ ps, p.2.bd st.s.length := by
  intro xs
  induction xs with
  | nil => intro vs hv; simp only [St.getP, getTP, Option.some.injEq] at hv; subst hv; simp [absP]
  | cons x xs ih =>
    intro vs hv
    simp only [St.getP, getTP] at hv
    split at hv
    · rename_i v vs' h1 h2
      simp only [Option.some.injEq] at hv
      subst hv
      obtain ⟨e1, e2⟩ := h.eval h1
      obtain ⟨e3, e4⟩ := ih h2
      refine ⟨by simp [absP, e1, e3], fun p hp => ?_⟩
      rcases List.mem_cons.1 hp with rfl | hp
      · exact e2
      · exact e4 p hp
    · cases hv
theorem absL_setR (ρ : Rho) : ∀ (vs cs : List V) (o : Nat), absL ρ (setR cs o vs) = ((absL ρ vs).zipIdx o).foldl (fun l p => l.set p.2 p.1) (absL ρ cs) := by
  intro vs
  induction vs with
  | nil => intro cs o; simp [setR, absL]
  | cons v vs ih => intro cs o; simp [setR, absL, ih, absL_map, List.map_set]
theorem foldl_set (off : Nat) : ∀ (vs : List Value) (j : Nat) (cells : Array Value), ((vs.zipIdx j).foldl (fun cs (c, j) => cs.setIfInBounds (off + j) c) cells).toList = (vs.zipIdx (off + j)).foldl (fun l p => l.set p.2 p.1) cells.toList := by
  intro vs
  induction vs with
  | nil => intro j cells; simp
  | cons v vs ih => intro j cells; simp only [List.zipIdx_cons, List.foldl_cons]; rw [ih]; simp [Nat.add_assoc]
theorem fill_sound {place : Nat → Option (Nat × Nat)} : ∀ {ps : List (Nat × V)} {cells cs : List V}, vFill place cells ps = some cs → Instr.fill place (absL ρ cells).toArray (absP ρ ps) = some (absL ρ cs).toArray := by
  intro ps
  induction ps with
  | nil => intro cells cs h; simp only [vFill, Option.some.injEq] at h; subst h; simp [Instr.fill, absP]
  | cons p ps ih =>
    intro cells cs h
    simp only [vFill] at h
    split at h
    · cases h
    · rename_i off size hp
      split at h
      · rename_i hc
        simp only [Bool.and_eq_true] at hc
        have hc1 : p.2.cells.length = size := Nat.eq_of_beq_eq_true hc.1
        have hc2 : off + size ≤ cells.length := Nat.le_of_ble_eq_true hc.2
        have := ih h
        simp only [absP, List.map_cons, Instr.fill, hp, abs_cells, List.size_toArray, absL_length, hc1]
        rw [if_neg (by simp; omega)]
        rw [← this]
        congr 1
        apply Array.ext'
        have := foldl_set off (absL ρ p.2.cells) 0 (absL ρ cells).toArray
        simpa [absL_setR, hc1] using this
      · cases h
theorem fill_bd {place : Nat → Option (Nat × Nat)} {n : Nat} : ∀ {ps : List (Nat × V)} {cells cs : List V}, vFill place cells ps = some cs → (∀ p ∈ ps, p.2.bd n) → bdL n cells → bdL n cs := by
  intro ps
  induction ps with
  | nil => intro cells cs h _ hb; simp only [vFill, Option.some.injEq] at h; subst h; exact hb
  | cons p ps ih =>
    intro cells cs h hp hb
    simp only [vFill] at h
    split at h
    · cases h
    · split at h
      · exact ih h (fun q hq => hp q (by simp [hq])) (bdL_setR (bd_cells (hp p (by simp))) hb)
      · cases h
theorem zero_sound {t : TypeId} {z : List V} (h : vZero P t = some z) : ∃ v, (zeroValue t).run P w = .ok v w ∧ v.cells = (absL ρ z).toArray ∧ ∀ n, bdL n z := by
  unfold vZero at h
  split at h
  · rename_i i hi
    split at h
    · rename_i v hv
      simp only [Option.some.injEq] at h
      subst h
      refine ⟨v, by simp [zeroValue, run_typeInfo hi, hv], ?_, fun n => bd_cells (v := .raw v) trivial⟩
      have := abs_cells ρ (.raw v)
      simpa [V.abs] using this
    · cases h
  · cases h
theorem places_sound : ∀ {fs : List Field} {pl : List (Nat × Nat)}, vPlaces P fs = some pl → ((fs.mapM fun f => do pure (f.offset, ← sizeOf f.type) : Sem (List (Nat × Nat)))).run P w = .ok pl w := by
  intro fs
  induction fs with
  | nil => intro pl h; simp only [vPlaces, Option.some.injEq] at h; subst h; simp
  | cons f fs ih =>
    intro pl h
    simp only [vPlaces] at h
    split at h
    · rename_i i l h1 h2
      simp only [Option.some.injEq] at h
      subst h
      rw [List.mapM_cons]
      simp only [Sem.run_bind, run_sizeOf h1, Result.andThen_ok, Sem.run_pure, ih h2]
    · cases h
theorem build_sound {t : TypeId} {ps : List (Nat × V)} {v : V} (h : vBuild P t ps = some v) : (Instr.build t (absP ρ ps).toArray).run P w = .ok (v.abs ρ) w := by
  unfold vBuild at h
  split at h
  · rename_i zero fields hz ht
    obtain ⟨z, z1, z2, _⟩ := zero_sound (ρ := ρ) (w := w) hz
    split at h
    · rename_i pl hpl
      split at h
      · rename_i cs hcs
        simp only [Option.some.injEq] at h
        subst h
        have hm : (fields.mapM fun f => do pure (f.offset, ← sizeOf f.type) : Sem (Array (Nat × Nat))).run P w = .ok pl.toArray w := by
          rw [← Array.toArray_toList (xs := fields)]
          rw [List.mapM_toArray]
          simp only [Sem.run_map, places_sound hpl, Result.andThen_ok]
        have hf := fill_sound (ρ := ρ) hcs
        simp only [Instr.build, Sem.run_bind, z1, Result.andThen_ok, run_underlying ht, hm, z2]
        simp [hf, V.abs]
      · cases h
    · cases h
  · rename_i zero n elem hz ht
    obtain ⟨z, z1, z2, _⟩ := zero_sound (ρ := ρ) (w := w) hz
    split at h
    · rename_i inf hinf
      split at h
      · rename_i cs hcs
        simp only [Option.some.injEq] at h
        subst h
        have hf := fill_sound (ρ := ρ) hcs
        simp only [Instr.build, Sem.run_bind, z1, Result.andThen_ok, run_underlying ht, run_sizeOf hinf, z2]
        simp [hf, V.abs]
      · cases h
    · cases h
  · cases h
theorem build_bd {t : TypeId} {ps : List (Nat × V)} {v : V} {n : Nat} (h : vBuild P t ps = some v) (hb : ∀ p ∈ ps, p.2.bd n) : v.bd n := by
  unfold vBuild at h
  split at h
  · rename_i zero fields hz ht
    obtain ⟨z, z1, z2, z3⟩ := zero_sound (ρ := fun _ => (0, 0)) (w := default) hz
    split at h
    · split at h
      · rename_i cs hcs
        simp only [Option.some.injEq] at h; subst h
        exact fill_bd hcs hb (z3 n)
      · cases h
    · cases h
  · rename_i zero m elem hz ht
    obtain ⟨z, z1, z2, z3⟩ := zero_sound (ρ := fun _ => (0, 0)) (w := default) hz
    split at h
    · split at h
      · rename_i cs hcs
        simp only [Option.some.injEq] at h; subst h
        exact fill_bd hcs hb (z3 n)
      · cases h
    · cases h
  · cases h
theorem zeros_sound {z : List V} {v : Value} {size n : Nat} (hz : v.cells = (absL ρ z).toArray) (hs : z.length = size) :
    (Array.range (n * size)).map (fun i => v.cells[i % v.cells.size]!) = (absL ρ (vZeros z size n)).toArray := by
  apply Array.ext'
  have hsz : v.cells.size = size := by rw [hz]; simp [absL_length, hs]
  unfold vZeros
  split
  · match z, hs with
    | [u], _ =>
      rw [hz]
      simp [absL, absL_map, Nat.mod_one, List.map_const']
  · rename_i hne
    rw [hz]
    simp only [Array.toList_map, Array.toList_range, absL_map, List.map_map, List.size_toArray, List.length_map]
    apply List.map_congr_left
    intro i hi
    have hlt : i < n * size := List.mem_range.1 hi
    have h0 : 0 < size := by rcases Nat.eq_zero_or_pos size with h | h; · subst h; simp at hlt
                             · exact h
    have hm : i % z.length < z.length := by rw [hs]; exact Nat.mod_lt _ h0
    simp [hm, List.getD_eq_getElem?_getD, List.getElem?_eq_getElem hm]
end
end Go.Proofs.YtpahclogghdnpaaDoorRL
