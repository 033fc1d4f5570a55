/- Parts of the proof, one behind the other. -/
import Derived.Test.YtpahclogghdnpaaDoorProg
import Derived.Test.YtpahclogghdnpaaDoorzA64KinRL14
import Derived.Test.YtpahclogghdnpaaDoorzA64KinShelf
import Derived.Test.YtpahclogghdnpaaDoorzA64KinRLX
section
/- Two facts of the program (a seat whose program is called Tryd). -/
namespace Go.Proofs.Try
noncomputable abbrev prog : Go.Program := Go.Proofs.Tryd.prog
end Go.Proofs.Try
namespace Go.Proofs.YtpahclogghdnpaaDoorRL
open Go
theorem names : namesOk Try.prog = true := by kernel_rfl
theorem mixed : Try.prog.follows .mixedOrders = true := by kernel_rfl
end Go.Proofs.YtpahclogghdnpaaDoorRL
end
section
/- strings.Fields of a64.Name's text; a64.Name as a table's line. -/
set_option linter.unusedVariables false
set_option linter.unusedSimpArgs false
set_option maxRecDepth 1000000
namespace Go.Proofs.YtpahclogghdnpaaDoor.a64
open Go Go.Proofs Go.Proofs.YtpahclogghdnpaaDoorRL
abbrev bV (b : Bool) : V := .raw (.bool b)
abbrev rK (K : V → Prop) : Res → Sto → Prop := fun r _ => match r with | .ret v => K v | .pan _ => False
theorem rK_ok {u : V} : ∀ (r : Res) (s : Sto), rK (fun v => v = u) r s → r = .ret u
  | .ret v, s, h => congrArg Res.ret h
  | .pan v, s, h => h.elim
/-- The table that strings.Fields reads. -/
def tab : List Value := Lib.asciiSpaceTab.map fun z => Value.int .u8 z
abbrev gE : Ent := .glob 0 tab
def txtL : List UInt8 := [117, 100, 102, 32, 110, 111, 112, 32, 109, 111, 118, 122, 32, 109, 111, 118, 107, 32, 97, 100, 100, 105, 32, 115, 117, 98, 105, 32, 115, 117, 98, 115, 105, 32, 97, 100, 100, 32, 115, 117, 98, 32, 115, 117, 98, 115, 32, 97, 110, 100, 32, 111, 114, 114, 32, 101, 111, 114, 32, 109, 97, 100, 100, 32, 109, 115, 117, 98, 32, 115, 100, 105, 118, 32, 108, 115, 108, 118, 32, 108, 115, 114, 118, 32, 97, 115, 114, 118, 32, 99, 115, 105, 110, 99, 32, 98, 32, 98, 46, 32, 99, 98, 122, 32, 99, 98, 110, 122, 32, 98, 108, 32, 98, 114, 32, 98, 108, 114, 32, 114, 101, 116, 32, 108, 100, 114, 32, 115, 116, 114, 32, 108, 100, 114, 98, 32, 108, 100, 114, 114, 32, 115, 116, 114, 114, 32, 108, 100, 97, 114, 32, 115, 116, 108, 114, 32, 108, 100, 120, 114, 32, 115, 116, 120, 114, 32, 100, 109, 98, 32, 100, 115, 98, 32, 105, 115, 98, 32, 100, 99, 32, 105, 99, 32, 115, 118, 99]
def txt : ByteArray := ⟨txtL.toArray⟩
def nmL : List (List UInt8) := [[117, 100, 102], [110, 111, 112], [109, 111, 118, 122], [109, 111, 118, 107], [97, 100, 100, 105], [115, 117, 98, 105], [115, 117, 98, 115, 105], [97, 100, 100], [115, 117, 98], [115, 117, 98, 115], [97, 110, 100], [111, 114, 114], [101, 111, 114], [109, 97, 100, 100], [109, 115, 117, 98], [115, 100, 105, 118], [108, 115, 108, 118], [108, 115, 114, 118], [97, 115, 114, 118], [99, 115, 105, 110, 99], [98], [98, 46], [99, 98, 122], [99, 98, 110, 122], [98, 108], [98, 114], [98, 108, 114], [114, 101, 116], [108, 100, 114], [115, 116, 114], [108, 100, 114, 98], [108, 100, 114, 114], [115, 116, 114, 114], [108, 100, 97, 114], [115, 116, 108, 114], [108, 100, 120, 114], [115, 116, 120, 114], [100, 109, 98], [100, 115, 98], [105, 115, 98], [100, 99], [105, 99], [115, 118, 99]]
def strV (l : List UInt8) : V := .raw (.string ⟨l.toArray⟩)
def eqB : List UInt8 → List UInt8 → Bool
  | [], [] => true
  | a :: l, b :: m => match Nat.beq a.toNat b.toNat with
    | true => eqB l m
    | false => false
  | _, _ => false
theorem eqB_eq : ∀ {l m : List UInt8}, eqB l m = true → l = m
  | [], [], _ => rfl
  | a :: l, b :: m, h => by
    unfold eqB at h
    split at h
    · rename_i hb
      rw [eqB_eq h, UInt8.toNat_inj.1 (Nat.eq_of_beq_eq_true hb)]
    · cases h
  | [], _ :: _, h => by cases h
  | _ :: _, [], h => by cases h
theorem fields_txt : Lib.fields txtL = nmL := by kernel_rfl
theorem txt_small : txt.size < 4294967281 := by decide
theorem txt_ascii : (txtL.all fun b => Nat.blt b.toNat 128) = true := by kernel_rfl
theorem glob0 : Tryd.prog.globalNamed "strings.asciiSpace" = some 0 := by kernel_rfl
theorem tabIs {ρ : Rho} {s : Sto} {w : World} {i : Nat} (hr : Rep ρ s w) (hi : s[i]? = some gE) : Lib.TabIs Tryd.prog w "strings.asciiSpace" .u8 Lib.asciiSpaceTab := by
  obtain ⟨⟨t, x, h1⟩, h2⟩ := hr.ent i _ hi
  rw [h2] at h1
  unfold Lib.TabIs World.var?
  rw [glob0]
  show (match w.heap[0]? with | some (.cells cs _ _) => some cs | _ => none) = _
  rw [h1]
  rfl
theorem fields_ok : CallOk Try.prog 38 [.raw (.string txt)] [gE] fun r s' => r = .ret (.sl 1 0 43 43) ∧ s' = [gE, .own (nmL.map strV) 9] := by
  refine ⟨fun xs w => ?_, fun ρ w hr hs hb => ?_⟩
  · have hf : Try.prog.funcs[38]? = some (funcOf Try.prog 38) := by kernel_rfl
    have hn : ((funcOf Try.prog 38).name == "runtime.NumGoroutine") = false := by kernel_rfl
    have hb : (funcOf Try.prog 38).body.isNone = false := by kernel_rfl
    simp only [callFunc, Sem.run_bind, run_program, Result.andThen_ok, hf]
    rw [if_neg (by simp [hn]), if_neg (by simp [hb])]
    rfl
  · refine (Tryd.strings_Fields txt w txt_small (fun j b hj => ?_) (tabIs (i := 0) hr rfl)).mono fun e w' h => ?_
    · have := List.all_eq_true.1 txt_ascii b (List.mem_of_getElem? hj)
      simpa using this
    · obtain ⟨rfl, rfl⟩ := h
      have e1 : Lib.fields txt.data.toList = nmL := fields_txt
      rw [e1]
      obtain ⟨q1, q2, q3⟩ := Rep.alloc (e := .own (nmL.map strV) 9) (o := .cells (nmL.map fun l => Value.string ⟨l.toArray⟩).toArray 9) hr hs rfl (by rw [show (Ent.own (nmL.map strV) 9).bd [gE].length = bdL [gE].length (nmL.map strV) from rfl, bdL_iff]; intro v hv; obtain ⟨l, _, rfl⟩ := List.mem_map.1 hv; trivial) ⟨by
        rw [show (ρ.push [gE].length w.heap.size) [gE].length = (w.heap.size, 0) from Rho.push_at, absL_map, List.map_map]
        exact World.alloc_heap_new _ _, by rw [Rho.push_at]⟩
      refine ⟨.ret (.sl 1 0 43 43), _, _, ?_, ⟨rfl, rfl⟩, q1, q2, q3, ?_⟩
      · show Ending.returned _ = Ending.returned _
        congr 1
      · show 1 < 2
        omega
end Go.Proofs.YtpahclogghdnpaaDoor.a64
end
section
/- a64.Name as a table's line. -/
set_option linter.unusedVariables false
set_option linter.unusedSimpArgs false
set_option maxRecDepth 1000000
namespace Go.Proofs.YtpahclogghdnpaaDoor.a64
open Go Go.Proofs Go.Proofs.YtpahclogghdnpaaDoorRL
def eqT : List Value → List Int → Bool
  | [], [] => true
  | .int .u8 a :: l, z :: zs => match decide (a = z) with
    | true => eqT l zs
    | false => false
  | _, _ => false
theorem eqT_eq : ∀ {l : List Value} {zs : List Int}, eqT l zs = true → l = zs.map fun z => Value.int .u8 z
  | [], [], _ => rfl
  | v :: l, z :: zs, h => by
    unfold eqT at h
    split at h
    · rename_i h1; cases h1
    · rename_i a l2 z2 zs2 h1 h2
      cases h1
      cases h2
      split at h
      · rename_i hd
        rw [of_decide_eq_true hd, eqT_eq h]; rfl
      · cases h
    · cases h
  | [], _ :: _, h => by cases h
  | v :: _, [], h => by
    unfold eqT at h
    split at h
    · simp_all
    · simp_all
    · cases h
/-- Is entry i the table of strings.Fields? -/
def isG (s : Sto) (i : Nat) : Bool := match s[i]? with
  | some (.glob 0 cs) => eqT cs Lib.asciiSpaceTab
  | _ => false
theorem isG_eq {s : Sto} {i : Nat} (h : isG s i = true) : s[i]? = some gE := by
  unfold isG at h
  split at h
  · rename_i cs hi
    rw [hi, eqT_eq h]; rfl
  · cases h
def fieldsA : List V → Sto → Option Ans := fun args s => match args with
  | [.raw (.string b)] => match isG s 0 && eqB b.data.toList txtL with
    | true => some (.one (.ret (.sl s.length 0 43 43)) (s ++ [.own (nmL.map strV) 9]))
    | false => none
  | _ => none
theorem fieldsA_ok {E : Eh} (hE : EOk Try.prog E) : EOk Try.prog (addE 38 fieldsA E) := by
  refine addE_ok hE fun args s a h hf => ?_
  unfold fieldsA at h
  split at h
  · rename_i b
    split at h
    · rename_i hb
      cases h
      simp only [Bool.and_eq_true] at hb
      obtain ⟨h2, h3⟩ := hb
      have hi := isG_eq h2
      have hx : b = txt := by
        have := eqB_eq h3
        cases b
        rename_i d
        show ByteArray.mk d = ByteArray.mk txtL.toArray
        rw [← this]
      subst hx
      refine CallOk.frame (s0 := [gE]) (π := fun _ => 0) (fun j e he => ?_) (fun j e he => .inr ?_) (fun j hj => (List.getElem?_eq_some_iff.1 hi).1) fun ρ => ⟨[.raw (.string txt)], rfl, ⟨trivial, trivial⟩, fields_ok.mono fun r s' hr => ?_⟩
      · cases j with
        | zero => simp at he; subst he; rfl
        | succ j => simp at he
      · cases j with
        | zero =>
          simp at he; subst he
          exact ⟨by simp only [roS, List.getElem?_map, hi]; rfl, trivial⟩
        | succ j => simp at he
      · obtain ⟨rfl, rfl⟩ := hr
        refine ⟨[.own (nmL.map strV) 9], rfl, rfl, ?_, ?_⟩
        · show Res.ret (V.sl (piX 1 s.length (fun _ => 0) 1) 0 43 43) = _
          rw [piX_11]
        · show s ++ [Ent.own (renL _ (nmL.map strV)) 9] = _
          rw [renL_flat _ (by rw [bdL_iff]; intro v hv; obtain ⟨l, _, rfl⟩ := List.mem_map.1 hv; trivial)]
    · cases h
  · cases h
noncomputable def EF : Eh := addE 38 fieldsA noE
theorem EF_ok : EOk Try.prog EF := fieldsA_ok noE_ok
def nmS (op : Int) : ByteArray := if 0 ≤ op ∧ op < 43 then ⟨(nmL.getD op.toNat []).toArray⟩ else ⟨#[]⟩
def nameM (op : Int) (K : V → Prop) : Nat → List (List UInt8) → Prop
  | _, [] => K (.raw (.string ⟨#[]⟩))
  | k, l :: ls => Br ((k : Int) == op) (K (strV l)) (nameM op K (k + 1) ls)
theorem name_eq (op : Int) (K : V → Prop) : callG Try.prog EF 400 15 [.raw (.int .i64 op)] [gE] (rK K) = nameM op K 0 nmL := by kernel_rfl
theorem nameM_ok {op : Int} {K : V → Prop} : ∀ (k : Nat) (l : List (List UInt8)), nmL.drop k = l → (0 ≤ op → (k : Int) ≤ op ∨ op ≥ 43) → K (.raw (.string (nmS op))) → nameM op K k l
  | k, [], hd, hk, h => by
    unfold nameM
    have hl : 43 ≤ k := by
      have := congrArg List.length hd
      rw [List.length_drop, show nmL.length = 43 from rfl] at this
      simp at this; omega
    have e : nmS op = ⟨#[]⟩ := if_neg (by omega)
    rw [e] at h; exact h
  | k, l :: ls, hd, hk, h => by
    have hlt : k < nmL.length := by
      rcases Nat.lt_or_ge k nmL.length with h1 | h1
      · exact h1
      · rw [List.drop_eq_nil_of_le h1] at hd; cases hd
    rw [List.drop_eq_getElem_cons hlt] at hd
    obtain ⟨h1, h2⟩ := List.cons.inj hd
    unfold nameM
    by_cases ho : (k : Int) = op
    · rw [show ((k : Int) == op) = true from by rw [beq_iff_eq]; exact ho]
      have e : (V.raw (.string (nmS op))) = strV l := by
        have hk43 : k < 43 := hlt
        unfold nmS strV
        rw [if_pos (by omega), ← h1, show op.toNat = k by omega, List.getD_eq_getElem?_getD, List.getElem?_eq_getElem hlt]; rfl
      rw [e] at h
      exact h
    · rw [show ((k : Int) == op) = false from by rw [beq_eq_false_iff_ne]; exact ho]
      refine nameM_ok (k + 1) ls h2 (fun h0 => ?_) h
      rcases hk h0 with h3 | h3
      · exact .inl (by omega)
      · exact .inr h3
theorem name_ok (op : Int) : CallOk Try.prog 15 [.raw (.int .i64 op)] [gE] fun r _ => r = .ret (.raw (.string (nmS op))) := by
  refine (callG_ok EF_ok names mixed (n := 400) (K := rK fun v => v = .raw (.string (nmS op))) ?_).mono rK_ok
  rw [name_eq]
  exact nameM_ok 0 nmL rfl (fun h => .inl (by omega)) rfl
def nameA : List V → Sto → Option Ans := fun args s => match args with
  | [.raw (.int .i64 op)] => match isG s 0 with
    | true => some (.one (.ret (.raw (.string (nmS op)))) s)
    | false => none
  | _ => none
theorem nameA_ok {E : Eh} (hE : EOk Try.prog E) : EOk Try.prog (addE 15 nameA E) := by
  refine addE_ok hE fun args s a h hf => ?_
  unfold nameA at h
  split at h
  · rename_i op
    split at h
    · rename_i hg
      cases h
      refine CallOk.reads (v := .raw (.string (nmS op))) trivial (name_ok op).plain fun ρ w hr hs => ⟨fun _ => ρ 0, [.raw (.int .i64 op)], [gE], rfl, ⟨fun j x hx => ?_, fun a b e f ha _ ho => ?_⟩, fun j x hx => ?_, ⟨trivial, trivial⟩, fun j e he => ?_, name_ok op⟩
      · cases j with
        | zero => simp at hx; subst hx; exact hr.ent 0 _ (isG_eq hg)
        | succ j => simp at hx
      · cases a with
        | zero => simp at ha; subst ha; cases ho
        | succ a => simp at ha
      · cases j with
        | zero => simp at hx; subst hx; trivial
        | succ j => simp at hx
      · cases j with
        | zero => simp at he; subst he; rfl
        | succ j => simp at he
    · cases h
  · cases h
end Go.Proofs.YtpahclogghdnpaaDoor.a64
end
