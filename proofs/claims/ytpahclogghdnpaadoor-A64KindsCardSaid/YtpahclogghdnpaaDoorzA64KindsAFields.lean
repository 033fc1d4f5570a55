/- strings.Fields of a64.Name's text; a64.Name as a table's line. -/
import Derived.Test.YtpahclogghdnpaaDoorzA64KindsShelf
import Derived.Test.YtpahclogghdnpaaDoorzA64KindsRLX
import Derived.Test.YtpahclogghdnpaaDoorzA64KindsRLNames
set_option linter.unusedVariables false
set_option linter.unusedSimpArgs false
set_option maxRecDepth 1000000
namespace Go.Proofs.YtpahclogghdnpaaDoor.a64
open Go Go.Proofs Go.Proofs.YtpahclogghdnpaaDoorRL
abbrev bV (b : Bool) : V := .raw (.bool b)
abbrev rK (K : V → Prop) : Res → Sto → Prop := fun r _ => match r with | .ret v => K v | .pan _ => False
theorem rK_ok {u : V} : ∀ (r : Res) (s : Sto), rK (fun v => v = u) r s → r = .ret u
  | .ret v, s, h => congrArg Res.ret h
  | .pan v, s, h => h.elim
/-- The table that strings.Fields reads. -/
def tab : List Value := Lib.asciiSpaceTab.map fun z => Value.int .u8 z
abbrev gE : Ent := .glob 0 tab
def txtL : List UInt8 := [117, 100, 102, 32, 110, 111, 112, 32, 109, 111, 118, 122, 32, 109, 111, 118, 107, 32, 97, 100, 100, 105, 32, 115, 117, 98, 105, 32, 115, 117, 98, 115, 105, 32, 97, 100, 100, 32, 115, 117, 98, 32, 115, 117, 98, 115, 32, 97, 110, 100, 32, 111, 114, 114, 32, 101, 111, 114, 32, 109, 97, 100, 100, 32, 109, 115, 117, 98, 32, 115, 100, 105, 118, 32, 108, 115, 108, 118, 32, 108, 115, 114, 118, 32, 97, 115, 114, 118, 32, 99, 115, 105, 110, 99, 32, 98, 32, 98, 46, 32, 99, 98, 122, 32, 99, 98, 110, 122, 32, 98, 108, 32, 98, 114, 32, 98, 108, 114, 32, 114, 101, 116, 32, 108, 100, 114, 32, 115, 116, 114, 32, 108, 100, 114, 98, 32, 108, 100, 114, 114, 32, 115, 116, 114, 114, 32, 108, 100, 97, 114, 32, 115, 116, 108, 114, 32, 108, 100, 120, 114, 32, 115, 116, 120, 114, 32, 100, 109, 98, 32, 100, 115, 98, 32, 105, 115, 98, 32, 100, 99, 32, 105, 99, 32, 115, 118, 99]
def txt : ByteArray := ⟨txtL.toArray⟩
def nmL : List (List UInt8) := [[117, 100, 102], [110, 111, 112], [109, 111, 118, 122], [109, 111, 118, 107], [97, 100, 100, 105], [115, 117, 98, 105], [115, 117, 98, 115, 105], [97, 100, 100], [115, 117, 98], [115, 117, 98, 115], [97, 110, 100], [111, 114, 114], [101, 111, 114], [109, 97, 100, 100], [109, 115, 117, 98], [115, 100, 105, 118], [108, 115, 108, 118], [108, 115, 114, 118], [97, 115, 114, 118], [99, 115, 105, 110, 99], [98], [98, 46], [99, 98, 122], [99, 98, 110, 122], [98, 108], [98, 114], [98, 108, 114], [114, 101, 116], [108, 100, 114], [115, 116, 114], [108, 100, 114, 98], [108, 100, 114, 114], [115, 116, 114, 114], [108, 100, 97, 114], [115, 116, 108, 114], [108, 100, 120, 114], [115, 116, 120, 114], [100, 109, 98], [100, 115, 98], [105, 115, 98], [100, 99], [105, 99], [115, 118, 99]]
def strV (l : List UInt8) : V := .raw (.string ⟨l.toArray⟩)
def eqB : List UInt8 → List UInt8 → Bool
  | [], [] => true
  | a :: l, b :: m => match Nat.beq a.toNat b.toNat with
    | true => eqB l m
    | false => false
  | _, _ => false
theorem eqB_eq : ∀ {l m : List UInt8}, eqB l m = true → l = m
  | [], [], _ => rfl
  | a :: l, b :: m, h => by
    unfold eqB at h
    split at h
    · rename_i hb
      rw [eqB_eq h, UInt8.toNat_inj.1 (Nat.eq_of_beq_eq_true hb)]
    · cases h
  | [], _ :: _, h => by cases h
  | _ :: _, [], h => by cases h
theorem fields_txt : Lib.fields txtL = nmL := by kernel_rfl
theorem txt_small : txt.size < 4294967281 := by decide
theorem txt_ascii : (txtL.all fun b => Nat.blt b.toNat 128) = true := by kernel_rfl
theorem glob0 : Tryd.prog.globalNamed "strings.asciiSpace" = some 0 := by kernel_rfl
theorem tabIs {ρ : Rho} {s : Sto} {w : World} {i : Nat} (hr : Rep ρ s w) (hi : s[i]? = some gE) : Lib.TabIs Tryd.prog w "strings.asciiSpace" .u8 Lib.asciiSpaceTab := by
  obtain ⟨⟨t, x, h1⟩, h2⟩ := hr.ent i _ hi
  rw [h2] at h1
  unfold Lib.TabIs World.var?
  rw [glob0]
  show (match w.heap[0]? with | some (.cells cs _ _) => some cs | _ => none) = _
  rw [h1]
  rfl
theorem fields_ok : CallOk Try.prog 38 [.raw (.string txt)] [gE] fun r s' => r = .ret (.sl 1 0 43 43) ∧ s' = [gE, .own (nmL.map strV) 9] := by
  refine ⟨fun xs w => ?_, fun ρ w hr hs hb => ?_⟩
  · have hf : Try.prog.funcs[38]? = some (funcOf Try.prog 38) := by kernel_rfl
    have hn : ((funcOf Try.prog 38).name == "runtime.NumGoroutine") = false := by kernel_rfl
    have hb : (funcOf Try.prog 38).body.isNone = false := by kernel_rfl
    simp only [callFunc, Sem.run_bind, run_program, Result.andThen_ok, hf]
    rw [if_neg (by simp [hn]), if_neg (by simp [hb])]
    rfl
  · refine (Tryd.strings_Fields txt w txt_small (fun j b hj => ?_) (tabIs (i := 0) hr rfl)).mono fun e w' h => ?_
    · have := List.all_eq_true.1 txt_ascii b (List.mem_of_getElem? hj)
      simpa using this
    · obtain ⟨rfl, rfl⟩ := h
      have e1 : Lib.fields txt.data.toList = nmL := fields_txt
      rw [e1]
      obtain ⟨q1, q2, q3⟩ := Rep.alloc (e := .own (nmL.map strV) 9) (o := .cells (nmL.map fun l => Value.string ⟨l.toArray⟩).toArray 9) hr hs rfl (by rw [show (Ent.own (nmL.map strV) 9).bd [gE].length = bdL [gE].length (nmL.map strV) from rfl, bdL_iff]; intro v hv; obtain ⟨l, _, rfl⟩ := List.mem_map.1 hv; trivial) ⟨by
        rw [show (ρ.push [gE].length w.heap.size) [gE].length = (w.heap.size, 0) from Rho.push_at, absL_map, List.map_map]
        exact World.alloc_heap_new _ _, by rw [Rho.push_at]⟩
      refine ⟨.ret (.sl 1 0 43 43), _, _, ?_, ⟨rfl, rfl⟩, q1, q2, q3, ?_⟩
      · show Ending.returned _ = Ending.returned _
        congr 1
      · show 1 < 2
        omega
end Go.Proofs.YtpahclogghdnpaaDoor.a64
