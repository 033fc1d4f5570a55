/- Parts of the proof, one behind the other. -/
import Derived.Test.YtllfmafebhifdaazWinBarriersWMay
section
/- win.May as a table's line. -/
set_option linter.unusedVariables false
set_option linter.unusedSimpArgs false
set_option maxRecDepth 100000
namespace Go.Proofs.Ytllfmafebhifdaa.win
open Go Go.Proofs Go.Proofs.YtllfmafebhifdaaRL Go.Proofs.Ytllfmafebhifdaa.isa
open may
/-- Does one of the first k that are not done hold up instruction i? -/
def WinC.held (W : WinC) (n : Nat) (i : Int) (r : RegsF) (k : Nat) : Bool := (List.range k).any fun j => !W.done j && W.rule n i (j : Nat) r
def WinC.may (W : WinC) (n : Nat) (i : Int) (r : RegsF) : Int :=
  if ¬ (0 ≤ i ∧ i < n) then 1 else if (W.inp n i r.nm).2 = false ∨ W.done i.toNat = true then 9 else match W.held n i r.nm i.toNat with
  | true => 9
  | false => 0
theorem held_true {W : WinC} {n : Nat} {i : Int} {r : RegsF} {k j : Nat} (hj : j < k) (h : (!W.done j && W.rule n i (j : Nat) r) = true) : W.held n i r k = true := by
  unfold WinC.held
  rw [List.any_eq_true]
  exact ⟨j, List.mem_range.2 hj, h⟩
theorem held_false {W : WinC} {n : Nat} {i : Int} {r : RegsF} {k : Nat} (h : ∀ j, j < k → (!W.done j && W.rule n i (j : Nat) r) = false) : W.held n i r k = false := by
  unfold WinC.held
  rw [List.any_eq_false]
  intro j hj
  rw [h j (List.mem_range.1 hj)]; simp
section
variable (W : WinC) (n N cap : Nat) (t : TypeId) (k : Nat) (r : RegsF)
def KU (a : Bool) : Res → Sto → Prop := fun q s2 => q = .ret (.tup []) ∧ ((a = true ∧ s2 = sB W n N cap t (k : Nat) k r 9 ++ [LP (some .ret)]) ∨ (a = false ∧ s2 = sB W n N cap t (k : Nat) k r 0 ++ [LP none]))
theorem und_loop (hN : n ≤ N) (hn : n ≤ 1000000) (hk : k < n) (q : Nat) (hq : q ≤ k) (hp : ∀ j, j < q → (!W.nm.done j && W.nm.rule n (k : Nat) (j : Nat) r.nm) = false) (K0 : Ex → St → Prop)
    (hend : W.nm.held n (k : Nat) r.nm k = false → K0 (.exit 0) (SU (sB W n N cap t (k : Nat) k r 0 ++ [LP none]) k q 8)) (hret : W.nm.held n (k : Nat) r.nm k = true → K0 .ret (SU (sB W n N cap t (k : Nat) k r 9 ++ [LP (some .ret)]) k q 8)) :
    evG Try.prog EY 40 (lft (subAt q1 cu)) (SU (sB W n N cap t (k : Nat) k r 0 ++ [LP none]) k q 8) fun e st => RK 9 (fun q : Nat => SU (sB W n N cap t (k : Nat) k r 0 ++ [LP none]) k q 8) (fun q => q ≤ k ∧ ∀ j, j < q → (!W.nm.done j && W.nm.rule n (k : Nat) (j : Nat) r.nm) = false) (fun q => k - q) q K0 e (keepS liveU st) := by
  have he := und_round W n N cap t (k : Nat) r k (q : Nat) (RK 9 (fun q : Nat => SU (sB W n N cap t (k : Nat) k r 0 ++ [LP none]) k q 8) (fun q => q ≤ k ∧ ∀ j, j < q → (!W.nm.done j && W.nm.rule n (k : Nat) (j : Nat) r.nm) = false) (fun q => k - q) q K0)
  refine he.mpr ?_
  unfold undM
  have c6 : ((q : Int)).toNat + 0 = q := rfl
  rw [c6]
  by_cases hlt : q < k
  · have c5 : IntKind.i64.wrap ((q : Int) + 1) = ((q + 1 : Nat) : Int) := by rw [wrap_i64_in (by omega) (by omega)]; omega
    rw [decide_eq_true (show (q : Int) < (k : Int) by omega), decide_eq_true (show (0 : Int) ≤ (q : Int) by omega), blt_lt hlt, c5]
    have nx : (!W.nm.done q && W.nm.rule n (k : Nat) (q : Nat) r.nm) = false → RK 9 (fun q : Nat => SU (sB W n N cap t (k : Nat) k r 0 ++ [LP none]) k q 8) (fun q => q ≤ k ∧ ∀ j, j < q → (!W.nm.done j && W.nm.rule n (k : Nat) (j : Nat) r.nm) = false) (fun q => k - q) q K0 .normal (SU (sB W n N cap t (k : Nat) k r 0 ++ [LP none]) k ((q + 1 : Nat) : Int) 8) := fun h =>
      RK.go (y := q + 1) rfl ⟨by omega, fun j hj => by
        by_cases hjq : j < q
        · exact hp j hjq
        · obtain rfl : j = q := by omega
          exact h⟩ (by omega)
    cases hd : W.done q with
    | true => exact nx (by rw [show W.nm.done q = true from hd]; rfl)
    | false =>
      refine fitM_ok hN hn ?_
      unfold inM2
      rw [decide_eq_true (show (0 : Int) ≤ (k : Int) by omega), decide_eq_true (show (k : Int) < (n : Int) by omega), decide_eq_true (show (0 : Int) ≤ (q : Int) by omega), decide_eq_true (show (q : Int) < (n : Int) by omega)]
      cases hr : W.nm.rule n (k : Nat) (q : Nat) r.nm with
      | true => exact hret (held_true hlt (by rw [show W.nm.done q = false from hd, hr]; rfl))
      | false => exact nx (by rw [hr, Bool.and_false])
  · rw [decide_eq_false (show ¬ (q : Int) < (k : Int) by omega)]
    obtain rfl : q = k := by omega
    exact hend (held_false hp)
theorem und_B (hN : n ≤ N) (hn : n ≤ 1000000) (hk : k < n) : CallOk Try.prog 30 [.yld 8, .ptr 5 0] (sB W n N cap t (k : Nat) k r 0 ++ [LP none]) (KU W n N cap t k r (W.nm.held n (k : Nat) r.nm k)) := by
  refine CallOk.fnB names (by kernel_rfl) ?_
  refine evTo_ok EY_ok names mixed (n := 40) (b := 9) (Z := fun st => keepS liveU st = SU (sB W n N cap t (k : Nat) k r 0 ++ [LP none]) k 0 8) q1 _ _ _ (fun st hz => ?_) ?_
  · refine CodeB.lop (by kernel_rfl) (byKeep EY_ok names mixed (N := 40) (fun q : Nat => SU (sB W n N cap t (k : Nat) k r 0 ++ [LP none]) k q 8) (fun q => q ≤ k ∧ ∀ j, j < q → (!W.nm.done j && W.nm.rule n (k : Nat) (j : Nat) r.nm) = false) (fun q => k - q) liveU (fun q hi => ?_) st 0 (by have h := keep_tells 9 liveU st; rw [hz] at h; exact h) ⟨Nat.zero_le _, fun j hj => absurd hj (Nat.not_lt_zero j)⟩)
    refine und_loop W n N cap t k r hN hn hk q hi.1 hi.2 _ (fun h => ?_) fun h => ?_
    · rw [und_after]
      exact (und_end _ _ _ _ _).mpr ⟨rfl, .inr ⟨h, rfl⟩⟩
    · rw [und_ret]
      exact (und_endR _ _ _ _ _).mpr ⟨rfl, .inl ⟨h, rfl⟩⟩
  · have hp := und_pre W n N cap t (k : Nat) r k (fun st => st = SU (sB W n N cap t (k : Nat) k r 0 ++ [LP none]) k 0 8) (bodyK False Try.prog (funcOf Try.prog 30) (KU W n N cap t k r (W.nm.held n (k : Nat) r.nm k)))
    exact hp.mpr rfl
abbrev KM (u : Int) : Ex → St → Prop := bodyK False Try.prog (funcOf Try.prog 7) (rK fun v => v = .raw (.int .i64 u))
theorem rng_A (u : Int) (hu : u = 0) : CodeB Try.prog 1 rc ⟨40, tm, sA W n N cap t (k : Nat) r 0⟩ (ctxK Try.prog 1 pr cd (KM u)) := by
  rw [may_rc]
  refine rng_ok (f := 30) (first := []) (cap := [.ptr 5 0]) (v := .fn (.func 30) [] [.ptr 5 0]) rfl rfl (by kernel_rfl) ?_
  refine (callG_ok (K := fun q s2 => q = .ret (.tup []) ∧ s2 = sA W n N cap t (k : Nat) r 0 ++ [LP none]) EY_ok names mixed (n := 40) ?_).mono fun q s2 hq => ?_
  · exact (und_A W n N cap t (k : Nat) r _).mpr ⟨rfl, rfl⟩
  · obtain ⟨rfl, rfl⟩ := hq
    refine ⟨⟨_, rfl⟩, _, _, _, _, _, none, rfl, .inl ⟨rfl, ?_⟩⟩
    show ctxK Try.prog 1 pr cd (KM u) .normal ⟨40, tm, sA W n N cap t (k : Nat) r 0 ++ [.no]⟩
    rw [may_after]
    refine CodeB.of (evG_ok EY_ok names mixed (n := 40) ?_)
    exact (may_postA W n N cap t (k : Nat) r _).mpr (by rw [hu])
theorem rng_B (u : Int) (hN : n ≤ N) (hn : n ≤ 1000000) (hk : k < n) (h1 : W.nm.held n (k : Nat) r.nm k = true → u = 9) (h0 : W.nm.held n (k : Nat) r.nm k = false → u = 0) : CodeB Try.prog 1 rc ⟨40, tm, sB W n N cap t (k : Nat) k r 0⟩ (ctxK Try.prog 1 pr cd (KM u)) := by
  rw [may_rc]
  refine rng_ok (f := 30) (first := []) (cap := [.ptr 5 0]) (v := .fn (.func 30) [] [.ptr 5 0]) rfl rfl (by kernel_rfl) ?_
  refine (und_B W n N cap t k r hN hn hk).mono fun q s2 hq => ?_
  obtain ⟨rfl, hq⟩ := hq
  rcases hq with ⟨ha, rfl⟩ | ⟨ha, rfl⟩
  · refine ⟨⟨_, rfl⟩, _, _, _, _, _, some .ret, rfl, .inr ⟨rfl, ?_⟩⟩
    show ctxK Try.prog 1 pr cd (KM u) .ret ⟨40, tm, sB W n N cap t (k : Nat) k r 9 ++ [.no]⟩
    exact (may_ret W n N cap t (k : Nat) r k _).mpr (by rw [h1 ha])
  · refine ⟨⟨_, rfl⟩, _, _, _, _, _, none, rfl, .inl ⟨rfl, ?_⟩⟩
    show ctxK Try.prog 1 pr cd (KM u) .normal ⟨40, tm, sB W n N cap t (k : Nat) k r 0 ++ [.no]⟩
    rw [may_after]
    refine CodeB.of (evG_ok EY_ok names mixed (n := 40) ?_)
    exact (may_postB W n N cap t (k : Nat) r k _).mpr (by rw [h0 ha])
theorem may_call (i : Int) (hN : n ≤ N) (hn : n ≤ 1000000) (hc : n ≤ cap) : CallOk Try.prog 7 [.sle 0 46 0 n cap, .raw (.int .i64 i), r.v] [.arr .ro W.cols N t] fun q _ => q = .ret (.raw (.int .i64 (W.nm.may n i r))) := by
  refine CallOk.mono (K := rK fun v => v = .raw (.int .i64 (W.nm.may n i r))) (CallOk.fnB names (by kernel_rfl) ?_) rK_ok
  refine evTo_ok EY_ok names mixed (n := 100) (b := 1) (Z := fun st => ∃ k : Nat, k < n ∧ (W.nm.held n (k : Nat) r.nm k = true → W.nm.may n i r = 9) ∧ (W.nm.held n (k : Nat) r.nm k = false → W.nm.may n i r = 0) ∧ ((k = 0 ∧ gcSt 1 live st = ⟨40, tm, sA W n N cap t (k : Nat) r 0⟩) ∨ gcSt 1 live st = ⟨40, tm, sB W n N cap t (k : Nat) k r 0⟩)) pr _ _ _ (fun st hz => ?_) ?_
  · obtain ⟨k, hk, h1, h0, hz⟩ := hz
    have ht := gc_tells 1 live st
    rcases hz with ⟨rfl, hz⟩ | hz
    · rw [hz] at ht
      refine CodeB.tell ht (rng_A W n N cap t 0 r _ (h0 (held_false fun j hj => absurd hj (Nat.not_lt_zero j))))
    · rw [hz] at ht
      exact CodeB.tell ht (rng_B W n N cap t k r _ hN hn hk h1 h0)
  · have hp := may_pre W n N cap t i r (fun v => v = .raw (.int .i64 (W.nm.may n i r))) fun st => ∃ k : Nat, k < n ∧ (W.nm.held n (k : Nat) r.nm k = true → W.nm.may n i r = 9) ∧ (W.nm.held n (k : Nat) r.nm k = false → W.nm.may n i r = 0) ∧ ((k = 0 ∧ st = ⟨40, tm, sA W n N cap t (k : Nat) r 0⟩) ∨ st = ⟨40, tm, sB W n N cap t (k : Nat) k r 0⟩)
    refine hp.mpr ?_
    unfold mayM
    by_cases h0 : 0 ≤ i
    · rw [decide_eq_true (show i ≥ 0 from h0)]
      by_cases h1 : i < n
      · rw [decide_eq_true h1]
        refine fitM_ok hN hn ?_
        obtain ⟨k, rfl⟩ := Int.eq_ofNat_of_zero_le h0
        have hk : k < n := by omega
        have e : W.nm.may n (k : Nat) r = if (W.nm.inp n (k : Nat) r.nm).2 = false ∨ W.done k = true then 9 else match W.nm.held n (k : Nat) r.nm k with
          | true => 9
          | false => 0 := by
          unfold WinC.may
          rw [if_neg (fun h => h ⟨h0, h1⟩)]
          rfl
        cases a1 : (W.nm.inp n (k : Nat) r.nm).2 with
        | false => rw [if_pos (Or.inl a1)] at e; rw [e]; rfl
        | true =>
          refine ixM_ok h0 h1 hN ?_
          have c6 : ((k : Int)).toNat + 0 = k := rfl
          have c7 : (0 + ((k : Int)).toNat) = k := Nat.zero_add k
          have c8 : ((k : Int)).toNat = k := rfl
          rw [c6, c7, c8]
          cases a2 : W.done k with
          | true => rw [if_pos (Or.inr a2)] at e; rw [e]; rfl
          | false =>
            rw [if_neg (fun h => h.elim (fun h => by rw [a1] at h; cases h) fun h => by rw [a2] at h; cases h)] at e
            rw [decide_eq_true (show (k : Int) ≤ (mxCap none cap cap : Nat) by show (k : Int) ≤ (cap : Nat); omega), Nat.ble_eq_true_of_le (show k ≤ N by omega)]
            have f1 : W.nm.held n (k : Nat) r.nm k = true → W.nm.may n (k : Nat) r = 9 := fun h => by rw [e, h]
            have f0 : W.nm.held n (k : Nat) r.nm k = false → W.nm.may n (k : Nat) r = 0 := fun h => by rw [e, h]
            by_cases hk0 : k = 0
            · subst hk0
              exact ⟨0, hk, f1, f0, .inl ⟨rfl, rfl⟩⟩
            · rw [show Nat.ble k 0 = false by cases hb : Nat.ble k 0 with | true => have := Nat.le_of_ble_eq_true hb; omega | false => rfl]
              have hg : growOk k 344 = true := by
                unfold growOk
                rw [Nat.ble_eq_true_of_le (by omega), Nat.ble_eq_true_of_le (by omega)]; rfl
              rw [hg]
              exact ⟨k, hk, f1, f0, .inr rfl⟩
      · rw [decide_eq_false h1]
        show V.raw (.int .i64 1) = _
        unfold WinC.may
        rw [if_pos (fun h => h1 h.2)]
    · rw [decide_eq_false (show ¬ i ≥ 0 from h0)]
      show V.raw (.int .i64 1) = _
      unfold WinC.may
      rw [if_pos (fun h => h0 h.1)]
end
/-- A window among the arguments, and how much room it has at least. -/
def atWinC (v : V) (s : Sto) : Option (WinC × Nat × Nat × Nat) := match v with
  | .sle i 46 0 n cap => match s[i]? with
    | some (.arr _ cols N _) => match readWinC cols with
      | some W => some (W, n, N, cap)
      | none => none
    | _ => none
  | .lse i k 46 0 n => match s[i]? with
    | some (.arr (.grow k') cols N _) => match Nat.beq k' k with
      | true => match readWinC cols with
        | some W => some (W, n, N, N)
        | none => none
      | false => none
    | _ => none
  | _ => none
theorem atWinC_abs {v : V} {s : Sto} {W : WinC} {n N c : Nat} (hv : atWinC v s = some (W, n, N, c)) : W.nm = W ∧ ∃ i m t, s[i]? = some (.arr m W.cols N t) ∧ ∀ (ρ : Rho) (w : World), Rep ρ s w → ∃ cap, c ≤ cap ∧ v.abs ρ = (V.sle 0 46 0 n cap).abs fun _ => ρ i := by
  unfold atWinC at hv
  split at hv
  · split at hv
    · rename_i i n' cap _ m cols N' t hi
      split at hv
      · rename_i W' hw
        cases hv
        have hcols := readWinC_eq hw
        subst hcols
        exact ⟨readWinC_nm hw, i, m, t, hi, fun ρ w hr => ⟨_, Nat.le_refl _, rfl⟩⟩
      · cases hv
    · cases hv
  · split at hv
    · rename_i i k n' _ k' cols N' t hi
      split at hv
      · rename_i hk
        obtain rfl := Nat.eq_of_beq_eq_true hk
        split at hv
        · rename_i W' hw
          cases hv
          have hcols := readWinC_eq hw
          subst hcols
          refine ⟨readWinC_nm hw, i, .grow k', t, hi, fun ρ w hr => ⟨(ρ k').1 - 0, ?_, rfl⟩⟩
          obtain ⟨cs, h1, _, _, rest, _, _, h4⟩ := hr.ent i _ hi
          have h46 : W.cols.length = 46 := by kernel_rfl
          rw [h46] at h1 h4
          omega
        · cases hv
      · cases hv
    · cases hv
  · cases hv
theorem atWinC_call {P : Program} {f : FuncId} {v : V} {rest : List V} {s : Sto} {W : WinC} {n N c : Nat} {u : V} (hv : atWinC v s = some (W, n, N, c)) (hr : bdL 0 rest) (hu : u.bd 0) (hp : ∀ (xs : Array Value) (w : World), (callFunc f xs).run P w = .ok (.enter f xs) w)
    (h : ∀ cap t, c ≤ cap → CallOk P f (.sle 0 46 0 n cap :: rest) [.arr .ro W.cols N t] fun r _ => r = .ret u) : CallOk P f (v :: rest) s fun r s' => r = .ret u ∧ s' = s := by
  obtain ⟨_, i, m, t, hi, hab⟩ := atWinC_abs hv
  refine CallOk.reads hu hp fun ρ w hR hs => ?_
  obtain ⟨cap, hc, hcap⟩ := hab ρ w hR
  refine ⟨fun _ => ρ i, .sle 0 46 0 n cap :: rest, [.arr .ro W.cols N t], ?_, ⟨fun j x hx => ?_, fun a b e f ha _ ho => ?_⟩, fun j x hx => ?_, ⟨Nat.zero_lt_one, bdL_mono (Nat.zero_le _) _ hr⟩, fun j e he => ?_, h cap t hc⟩
  · simp only [absL, hcap]
    exact congrArg _ (absL_congr (n := 0) (fun i hi => absurd hi (Nat.not_lt_zero i)) rest hr)
  · cases j with
    | zero => simp at hx; subst hx; exact repE_arr_idx (ρ := ρ) (i := i) rfl (arr_ro hR hi)
    | succ j => simp at hx
  · cases a with
    | zero => simp at ha; subst ha; cases ho
    | succ a => simp at ha
  · cases j with
    | zero => simp at hx; subst hx; trivial
    | succ j => simp at hx
  · cases j with
    | zero => simp at he; subst he; rfl
    | succ j => simp at he
def mayA : List V → Sto → Option Ans
  | [w, .raw (.int .i64 i), r], s => match atWinC w s, readR r with
    | some (W, n, N, c), some r => some (fits n N (.br (Nat.ble n c) (.one (.ret (.raw (.int .i64 (W.may n i r)))) s) .no))
    | _, _ => none
  | _, _ => none
theorem mayA_ok {E : Eh} (hE : EOk Try.prog E) : EOk Try.prog (addE 7 mayA E) := by
  refine addE_ok hE fun args s a h hf => ?_
  unfold mayA at h
  split at h
  · split at h
    · rename_i i0 r0 o1 o2 W n N c r hw hr
      cases h
      rw [readR_eq hr]
      refine fits_call hf fun h1 h2 hf => ?_
      rcases hf with ⟨h3, _⟩ | ⟨_, hf⟩
      · refine CallOk.mono (K := fun q s' => q = .ret (.raw (.int .i64 (W.may n i0 r))) ∧ s' = s) ?_ fun q s' h => .inl ⟨h3, h⟩
        have h3' := Nat.le_of_ble_eq_true h3
        refine atWinC_call hw ⟨trivial, r.v_bd 0, trivial⟩ trivial (may_call W n N n 0 r i0 h1 h2 (Nat.le_refl _)).plain fun cap t hc => ?_
        have := may_call W n N cap t r i0 h1 h2 (Nat.le_trans h3' hc)
        rw [(atWinC_abs hw).1] at this
        exact this
      · exact hf.elim
    · cases h
  · cases h
end Go.Proofs.Ytllfmafebhifdaa.win
end
section
/- known() of chapter 9. -/
set_option linter.unusedVariables false
set_option maxRecDepth 1000000
namespace Go.Proofs.Ytllfmafebhifdaa.win
open Go Go.Proofs Go.Proofs.YtllfmafebhifdaaRL Go.Proofs.Ytllfmafebhifdaa.isa
noncomputable def EK : Eh := opsE (specE 24 doG (specE 37 letWG (specE 27 getWG (addE 28 inB (addE 26 ouA (addE 25 contA noE))))))
theorem EK_ok : EOk Try.prog EK := opsE_ok (doG_ok (letWG_ok (getWG_ok (inB_ok (ouA_ok (contA_ok noE_ok))))))
theorem kn_eq (K : V → Prop) : callG Try.prog EK 100 6 [] [] (rK K) = K (bV true) := by kernel_rfl
theorem kn_ok : CallOk Try.prog 6 [] [] fun r _ => r = .ret (bV true) := by
  refine (callG_ok EK_ok names mixed (n := 100) (K := rK fun v => v = bV true) ?_).mono rK_ok
  have hp := kn_eq fun v => v = bV true
  rw [hp]
def knG : List V → Option V
  | [] => some (bV true)
  | _ => none
theorem knG_ok {E : Eh} (hE : EOk Try.prog E) : EOk Try.prog (specE 6 knG E) := by
  refine specE_ok hE fun args v h => ?_
  unfold knG at h
  split at h
  · cases h; exact ⟨trivial, trivial, kn_ok⟩
  · cases h
end Go.Proofs.Ytllfmafebhifdaa.win
end
