/- DecRows: the law's function tells true. -/
import Derived.Test.YtjoopjhimgdgdaazDecRowsLWalk2
import Derived.Test.YtjoopjhimgdgdaazDecRowsRLRow4
set_option linter.unusedVariables false
set_option linter.unusedSimpArgs false
set_option maxRecDepth 100000
namespace Go.Proofs.Ytjoopjhimgdgdaa.decRows
open Go Go.Proofs Go.Proofs.YtjoopjhimgdgdaaRL Go.Proofs.Ytjoopjhimgdgdaa.isa
noncomputable def EKn : Eh := addE 7 decA noE
set_option maxRecDepth 1000000 in
theorem kn_eq (K : V → Prop) : callG Try.prog EKn 400 6 [] [] (rK K) = K (bV true) := by kernel_rfl
theorem kn_ok : CallOk Try.prog 6 [] [] fun r _ => r = .ret (bV true) := by
  refine (callG_ok (decA_ok noE_ok) names mixed (n := 400) (K := rK fun v => v = bV true) ?_).mono rK_ok
  rw [show addE 7 decA noE = EKn from rfl, kn_eq]
theorem knG_ok {E : Eh} (hE : EOk Try.prog E) : EOk Try.prog (specE 6 knG E) := by
  refine specE_ok hE fun args v h => ?_
  unfold knG at h
  split at h
  · cases h; exact ⟨trivial, trivial, kn_ok⟩
  · cases h
theorem EL_ok : EOk Try.prog EL := knG_ok (decA_ok (rdecA_ok (bytesA_ok noE_ok)))
abbrev isT : V → Prop := fun v => v = bV true
theorem sameI_ok {w : Nat → Int} {k : Nat} : sameI (insW w) k (decI (w k)) = true := by
  unfold sameI insW
  simp
theorem sameW_ok {g : Nat → Int} {k : Nat} : sameW g k k = true := by
  unfold sameW
  simp
theorem wd_eq {b : Nat → Int} {k : Nat} (h : k ≤ 1000000) : wdL b (k : Int) = byt.wd b k := by
  unfold wdL byt.wd w1
  have e (q : Int) (a : Nat) (hq : q = a) (ha : a ≤ 5000000) : IntKind.i64.wrap q = ((a : Nat) : Int) := by
    subst hq; rw [wrap_i64_in (by omega) (by omega)]
  have z (a : Nat) : ((a : Nat) : Int).toNat + 0 = a := rfl
  rw [e (4 * (k : Int)) (4 * k) (by omega) (by omega), e (((4 * k : Nat) : Int) + 1) (4 * k + 1) (by omega) (by omega), e (((4 * k : Nat) : Int) + 2) (4 * k + 2) (by omega) (by omega), e (((4 * k : Nat) : Int) + 3) (4 * k + 3) (by omega) (by omega)]
  simp only [z]
section
variable {P : Program} {b : Nat} {c : Code} {K : Ex → St → Prop}
theorem byKeepC {α : Type} (S : α → St) (I : α → Prop) (μ : α → Nat) (live : List Nat)
    (round : ∀ x, I x → CodeB P b c (S x) fun e st => RK b S I μ x K e (keepS live st)) (st0 : St) (x0 : α) (ht : Tells b st0 (S x0)) (hi : I x0) : LoopB P b c st0 K := by
  refine LoopB.byG S I μ (fun x hx => ?_) st0 ⟨x0, ht, hi⟩
  refine (round x hx).mono fun e s he => ?_
  cases e
  · obtain ⟨y, h1, h2⟩ := he
    exact ⟨y, (keep_tells b live s).trans h1, h2⟩
  · exact ⟨_, keep_tells b live s, he⟩
  · exact ⟨_, keep_tells b live s, he⟩
  · exact ⟨_, keep_tells b live s, he⟩
  · exact he.elim
theorem CodeB.keep {st : St} (live : List Nat) (h : CodeB P b c st fun e st => K e (keepS live st)) (hp : ∀ v st, ¬ K (.panic v) st) : CodeB P b c st K := by
  refine CodeB.tellX (h.mono fun e s he => ?_)
  cases e with
  | panic v => exact (hp v _ he).elim
  | _ => exact ⟨_, keep_tells b live s, he⟩
end
section
variable (el : Ent) (b : Nat → Int) (m M capb : Nat) (u : TypeId)
abbrev KK : Ex → St → Prop := KB isT
abbrev T3 (k : Nat) : St := S3 el (insW (byt.wd b)) (m / 4) b m M capb u (k : Int)
abbrev R3 (KO : Ex → St → Prop) (k : Nat) : Ex → St → Prop := RK 2 (T3 el b m M capb u) (fun k => k ≤ m / 4) (fun k => m / 4 - k) k KO
/-- The last loop, up to the end. -/
theorem third (hN : m ≤ M) (hm : m ≤ 1000000) (h4 : m % 4 = 0) (KO : Ex → St → Prop) (hk : CodeB Try.prog 2 c3 (T3 el b m M capb u (m / 4)) KK → KO (.exit 4) (T3 el b m M capb u (m / 4))) (st : St) (ht : Tells 2 st (T3 el b m M capb u 0)) : CodeB Try.prog 2 (subAt p3 c2) st KO := by
  refine CodeB.lop (by kernel_rfl) (byKeepC (T3 el b m M capb u) (fun k => k ≤ m / 4) (fun k => m / 4 - k) lv0 (fun k hk2 => ?_) st 0 ht (Nat.zero_le _))
  have hk2 : k ≤ m / 4 := hk2
  refine evTo_ok EL_ok names mixed (n := 40) (b := 2) (Z := fun st => k < m / 4 ∧ keepS lv st = S4 el (insW (byt.wd b)) (m / 4) b m M capb u (k : Int) (wdL b (k : Int))) [0,1,2,0] _ _ _ (fun st hz => ?_) ?_
  · obtain ⟨hlt, hz⟩ := hz
    have ht := keep_tells 2 lv st
    rw [hz] at ht
    refine CodeB.tell ht (CodeB.keep lv ?_ fun v st h => (show False from h))
    refine CodeB.of (evG_ok EL_ok names mixed (n := 40) ?_)
    rw [b3_cmp el (insW (byt.wd b)) (m / 4) b m M capb u (k : Int) (wdL b (k : Int))]
    refine IX_ok hlt (Nat.le_refl _) ?_
    rw [wd_eq (show k ≤ 1000000 by omega), show (k : Int).toNat + 0 = k from rfl, decide_eq_true (byt.wd_in b k), sameI_ok]
    show ctxK Try.prog 2 [0,1,2,0] body3 _ .normal (S4 el (insW (byt.wd b)) (m / 4) b m M capb u (k : Int) (byt.wd b k))
    rw [b3_nx]
    refine CodeB.of (evG_ok EL_ok names mixed (n := 40) ?_)
    rw [b3_inc el (insW (byt.wd b)) (m / 4) b m M capb u (k : Int) (byt.wd b k) (R3 el b m M capb u KO k)]
    have c5 : w1 ((k : Int) + 1) = ((k + 1 : Nat) : Int) := by unfold w1; rw [wrap_i64_in (by omega) (by omega)]; omega
    rw [c5]
    exact RK.go (K := fun _ _ => True) (y := k + 1) rfl hlt (show m / 4 - (k + 1) < m / 4 - k by omega)
  · rw [b3_pre el (insW (byt.wd b)) (m / 4) b m M capb u (k : Int) (R3 el b m M capb u KO k) fun st => k < m / 4 ∧ st = S4 el (insW (byt.wd b)) (m / 4) b m M capb u (k : Int) (wdL b (k : Int))]
    unfold b3M
    by_cases hlt : k < m / 4
    · have e (q : Int) (a : Nat) (hq : q = a) (ha : a ≤ 5000000) : w1 q = ((a : Nat) : Int) := by
        unfold w1; subst hq; rw [wrap_i64_in (by omega) (by omega)]
      rw [decide_eq_true (show (k : Int) < ((m / 4 : Nat) : Int) by omega), e (4 * (k : Int)) (4 * k) (by omega) (by omega), e (((4 * k : Nat) : Int) + 1) (4 * k + 1) (by omega) (by omega), e (((4 * k : Nat) : Int) + 2) (4 * k + 2) (by omega) (by omega), e (((4 * k : Nat) : Int) + 3) (4 * k + 3) (by omega) (by omega)]
      exact IX_ok (by omega) hN (IX_ok (by omega) hN (IX_ok (by omega) hN (IX_ok (by omega) hN ⟨hlt, rfl⟩)))
    · obtain rfl : k = m / 4 := by omega
      rw [decide_eq_false (Int.lt_irrefl _)]
      show KO (.exit 4) (T3 el b m M capb u (m / 4))
      refine hk (CodeB.of (evG_ok EL_ok names mixed (n := 40) ?_))
      rw [e3]
end
theorem lenM_ok {m M : Nat} {P : Prop} (hN : m ≤ M) (hm : m ≤ 1000000) (h0 : 0 < m) (h : m % 4 = 0 → P) : lenM m M isT P := by
  have e0 : Nat.beq m 0 = false := by
    cases hb : Nat.beq m 0 with
    | true => have := Nat.eq_of_beq_eq_true hb; omega
    | false => rfl
  have e1 := Int.tmod_eq_emod_of_nonneg (b := 4) (show (0 : Int) ≤ (m : Int) by omega)
  have e2 : w1 ((m : Int).tdiv 4) = ((m / 4 : Nat) : Int) := by
    rw [Int.tdiv_eq_ediv_of_nonneg (by omega)]
    unfold w1
    rw [wrap_i64_in (by omega) (by omega)]
    omega
  unfold lenM
  rw [Nat.ble_eq_true_of_le hN, Nat.ble_eq_true_of_le hm, e0, e2]
  by_cases h4 : m % 4 = 0
  · rw [show ((m : Int).tmod 4 != 0) = false from by rw [e1, show (m : Int) % 4 = 0 by omega]; rfl, show (((m / 4 : Nat) : Int) != ((m / 4 : Nat) : Int)) = false from by simp]
    exact h h4
  · rw [show ((m : Int).tmod 4 != 0) = true from by rw [bne_iff_ne, e1]; omega]
    exact rfl
section
variable (g : Nat → Int) (n N cap : Nat) (t : TypeId) (eb : Ent) (vb : V) (stop : Int)
abbrev KIT1 : Ex → St → Prop := ctxK Try.prog 8 q1 cu (bodyK False Try.prog (funcOf Try.prog 29) fun r s => r = .ret (.tup []) ∧ ∃ c, s = s1 g n N cap t eb vb stop none c ∨ s = s1 g n N cap t eb vb stop (some (.exit 0)) c)
theorem it1 (hN : n ≤ N) (hn : n ≤ 1000000) (hg : ∀ j, j < n → 0 ≤ g j ∧ g j < 4294967296) : CallOk Try.prog 29 [.yld 7, .ptr 5 0] (s1 g n N cap t eb vb stop none 0) fun r s => r = .ret (.tup []) ∧ ∃ c, s = s1 g n N cap t eb vb stop none c ∨ s = s1 g n N cap t eb vb stop (some (.exit 0)) c := by
  refine CallOk.fnB names (by kernel_rfl) ?_
  refine evTo_ok EL_ok names mixed (n := 40) (b := 8) (Z := fun st => keepS liveU st = SU (s1 g n N cap t eb vb stop none ((0 : Nat) : Int)) n cap ((0 : Nat) : Int)) q1 _ _ _ (fun st hz => ?_) ?_
  · refine CodeB.lop (by kernel_rfl) (byKeep EL_ok names mixed (N := 40) (fun k : Nat => SU (s1 g n N cap t eb vb stop none (k : Int)) n cap (k : Int)) (fun k => k ≤ n) (fun k => n - k) liveU (fun k hk => ?_) st 0 (by have h := keep_tells 8 liveU st; rw [hz] at h; exact h) (Nat.zero_le _))
    have hk : k ≤ n := hk
    rw [u1_round g n N cap t eb vb stop (k : Int) (k : Int) (RK 8 (fun k : Nat => SU (s1 g n N cap t eb vb stop none (k : Int)) n cap (k : Int)) (fun k => k ≤ n) (fun k => n - k) k (KIT1 g n N cap t eb vb stop))]
    unfold u1M
    by_cases hlt : k < n
    · have c5 : w1 ((k : Int) + 1) = ((k + 1 : Nat) : Int) := by unfold w1; rw [wrap_i64_in (by omega) (by omega)]; omega
      rw [decide_eq_true (show (k : Int) < (n : Nat) by omega)]
      refine IX_ok hlt hN ?_
      rw [show (k : Int).toNat + 0 = k from rfl, decide_eq_true (hg k hlt), c5]
      by_cases hs : ((k + 1 : Nat) : Int) > stop
      · rw [decide_eq_true hs]
        show KIT1 g n N cap t eb vb stop .ret (SU (s1 g n N cap t eb vb stop (some (.exit 0)) ((k + 1 : Nat) : Int)) n cap (k : Int))
        unfold KIT1
        rw [u_ret]
        exact (u_endR n cap (k : Int) _ _).mpr ⟨rfl, _, .inr rfl⟩
      · rw [decide_eq_false hs]
        exact RK.go (K := fun _ _ => True) (y := k + 1) rfl hlt (show n - (k + 1) < n - k by omega)
    · obtain rfl : k = n := by omega
      rw [decide_eq_false (Int.lt_irrefl _)]
      show KIT1 g k N cap t eb vb stop (.exit 0) (SU (s1 g k N cap t eb vb stop none (k : Int)) k cap (k : Int))
      unfold KIT1
      rw [u_aft]
      exact (u_end k cap (k : Int) _ _).mpr ⟨rfl, _, .inl rfl⟩
  · rw [u1_pre g n N cap t eb vb stop 0 (bodyK False Try.prog (funcOf Try.prog 29) fun r s => r = .ret (.tup []) ∧ ∃ c, s = s1 g n N cap t eb vb stop none c ∨ s = s1 g n N cap t eb vb stop (some (.exit 0)) c) fun st => st = SU (s1 g n N cap t eb vb stop none ((0 : Nat) : Int)) n cap ((0 : Nat) : Int)]
    rfl
abbrev KIT2 : Ex → St → Prop := ctxK Try.prog 9 q1 cu (bodyK False Try.prog (funcOf Try.prog 29) fun r s => r = .ret (.tup []) ∧ s = s2 g n N cap t eb vb stop none (n : Int))
theorem it2 (hN : n ≤ N) (hn : n ≤ 1000000) (hg : ∀ j, j < n → 0 ≤ g j ∧ g j < 4294967296)
    (hu : ∀ (c k : Int) (K : Ex → St → Prop), evG Try.prog EL 40 (lft (subAt q1 cu)) (SV (s2 g n N cap t eb vb stop none c) n cap k) (fun e st => K e (gcSt 9 liveU st)) = u2M g n N c k (K .normal (SV (s2 g n N cap t eb vb stop none (w1 (c + 1))) n cap (w1 (k + 1)))) (K .ret (SV (s2 g n N cap t eb vb stop (some .ret) c) n cap k)) (K (.exit 0) (SV (s2 g n N cap t eb vb stop none c) n cap k))) :
    CallOk Try.prog 29 [.yld 8, .ptr 5 0] (s2 g n N cap t eb vb stop none 0) fun r s => r = .ret (.tup []) ∧ s = s2 g n N cap t eb vb stop none (n : Int) := by
  refine CallOk.fnB names (by kernel_rfl) ?_
  refine evTo_ok EL_ok names mixed (n := 40) (b := 9) (Z := fun st => keepS liveU st = SV (s2 g n N cap t eb vb stop none ((0 : Nat) : Int)) n cap ((0 : Nat) : Int)) q1 _ _ _ (fun st hz => ?_) ?_
  · refine CodeB.lop (by kernel_rfl) (LoopB.byE EL_ok names mixed (N := 40) (fun k : Nat => SV (s2 g n N cap t eb vb stop none (k : Int)) n cap (k : Int)) (fun k => k ≤ n) (fun k => n - k) liveU (fun k hk => ?_) st 0 (by have h := keep_tells 9 liveU st; rw [hz] at h; exact h) (Nat.zero_le _))
    have hk : k ≤ n := hk
    rw [hu (k : Int) (k : Int) (RK 9 (fun k : Nat => SV (s2 g n N cap t eb vb stop none (k : Int)) n cap (k : Int)) (fun k => k ≤ n) (fun k => n - k) k (KIT2 g n N cap t eb vb stop))]
    unfold u2M u32
    by_cases hlt : k < n
    · have c5 : w1 ((k : Int) + 1) = ((k + 1 : Nat) : Int) := by unfold w1; rw [wrap_i64_in (by omega) (by omega)]; omega
      rw [decide_eq_true (show (k : Int) < (n : Nat) by omega)]
      refine IX_ok hlt hN ?_
      rw [show (k : Int).toNat + 0 = k from rfl, decide_eq_true (hg k hlt), c5, show ((k : Int) != (k : Int)) = false from by simp, decide_eq_false (show ¬ (k : Int) ≥ (n : Nat) by omega), sameW_ok]
      refine IX_ok hlt hN ?_
      exact RK.go (K := fun _ _ => True) (y := k + 1) rfl hlt (show n - (k + 1) < n - k by omega)
    · obtain rfl : k = n := by omega
      rw [decide_eq_false (Int.lt_irrefl _)]
      show KIT2 g k N cap t eb vb stop (.exit 0) (SV (s2 g k N cap t eb vb stop none (k : Int)) k cap (k : Int))
      unfold KIT2
      rw [v_aft]
      exact (v_end _ k cap (k : Int) _).mpr ⟨rfl, rfl⟩
  · rw [u2_pre g n N cap t eb vb stop 0 (bodyK False Try.prog (funcOf Try.prog 29) fun r s => r = .ret (.tup []) ∧ s = s2 g n N cap t eb vb stop none (n : Int)) fun st => st = SV (s2 g n N cap t eb vb stop none ((0 : Nat) : Int)) n cap ((0 : Nat) : Int)]
    rfl
abbrev vlN : V := .sle 0 1 0 n cap
/-- From the first range to behind the second one. -/
theorem ranges (hN : n ≤ N) (hn : n ≤ 1000000) (hg : ∀ j, j < n → 0 ≤ g j ∧ g j < 4294967296)
    (hu : ∀ (c k : Int) (K : Ex → St → Prop), evG Try.prog EL 40 (lft (subAt q1 cu)) (SV (s2 g n N cap t eb vb stop none c) n cap k) (fun e st => K e (gcSt 9 liveU st)) = u2M g n N c k (K .normal (SV (s2 g n N cap t eb vb stop none (w1 (c + 1))) n cap (w1 (k + 1)))) (K .ret (SV (s2 g n N cap t eb vb stop (some .ret) c) n cap k)) (K (.exit 0) (SV (s2 g n N cap t eb vb stop none c) n cap k)))
    (tail : CodeB Try.prog 2 c2 ⟨134, tm2 vb, sL (elE g N t) eb (vlN n cap) stop (n : Int) false ++ [.no, .no]⟩ KK) : CodeB Try.prog 2 rc1 ⟨134, tm1 vb, sL (elE g N t) eb (vlN n cap) stop 0 false⟩ (ctxK Try.prog 2 p1 cd KK) := by
  have mid : ∀ c : Int, CodeB Try.prog 2 c1 ⟨134, tm1 vb, sL (elE g N t) eb (vlN n cap) stop c false ++ [.no]⟩ KK := fun c => by
    refine evTo_ok EL_ok names mixed (n := 40) (b := 2) (Z := fun st => keepS live2 st = ⟨134, tm2 vb, sL (elE g N t) eb (vlN n cap) stop 0 false ++ [.no]⟩) p2 _ _ _ (fun st hz => ?_) ?_
    · have ht := keep_tells 2 live2 st
      rw [hz] at ht
      refine CodeB.tell ht ?_
      show CodeB Try.prog 2 rc2 ⟨134, tm2 vb, sL (elE g N t) eb (vlN n cap) stop 0 false ++ [.no]⟩ _
      rw [rc2_eq]
      refine rng3_ok (f := 29) (first := []) (cap := [.ptr 5 0]) (v := fnAll) rfl rfl (by kernel_rfl) ?_
      refine (it2 g n N cap t eb vb stop hN hn hg hu).mono fun r s hr => ?_
      obtain ⟨rfl, rfl⟩ := hr
      refine ⟨⟨_, rfl⟩, _, _, _, _, _, none, rfl, .inl ⟨rfl, ?_⟩⟩
      show ctxK Try.prog 2 p2 c1 KK .normal ⟨134, tm2 vb, sL (elE g N t) eb (vlN n cap) stop (n : Int) false ++ [.no, .no]⟩
      rw [aft2]
      exact tail
    · rw [a1_eq g n N cap t eb vb stop c KK fun st => st = ⟨134, tm2 vb, sL (elE g N t) eb (vlN n cap) stop 0 false ++ [Ent.no]⟩]
  rw [rc1_eq]
  refine rng3_ok (f := 29) (first := []) (cap := [.ptr 5 0]) (v := fnAll) rfl rfl (by kernel_rfl) ?_
  refine (it1 g n N cap t eb vb stop hN hn hg).mono fun r s hr => ?_
  obtain ⟨rfl, c, rfl | rfl⟩ := hr
  · refine ⟨⟨_, rfl⟩, _, _, _, _, _, none, rfl, .inl ⟨rfl, ?_⟩⟩
    show ctxK Try.prog 2 p1 cd KK .normal ⟨134, tm1 vb, sL (elE g N t) eb (vlN n cap) stop c false ++ [.no]⟩
    rw [aft1]
    exact mid c
  · refine ⟨⟨_, rfl⟩, _, _, _, _, _, some (.exit 0), rfl, .inr ⟨0, rfl, ?_⟩⟩
    show ctxK Try.prog 2 p1 cd KK (.exit 0) ⟨134, tm1 vb, sL (elE g N t) eb (vlN n cap) stop c false ++ [.no]⟩
    rw [aft1x]
    exact mid c
end
theorem law_NN (g : Nat → Int) (n N cap : Nat) (t : TypeId) (b : Nat → Int) (m M capb : Nat) (u : TypeId) (stop : Int) (hN : n ≤ N) (hM : m ≤ M) (h0 : 0 < m) (hg : ∀ j, j < n → 0 ≤ g j ∧ g j < 4294967296) : CallOk Try.prog F [.sle 0 1 0 n cap, .sle 1 1 0 m capb, .raw (.int .i64 stop)] [elE g N t, .arr .ro [.int .u8 b] M u] fun r _ => r = .ret (bV true) := by
  refine CallOk.mono (K := rK isT) (CallOk.fnB names (by kernel_rfl) ?_) rK_ok
  refine evTo_ok EL_ok names mixed (n := 100) (b := 2) (Z := fun st => (n ≤ 200 ∧ m ≤ 800) ∧ keepS live1 st = ⟨134, tm1 (.sle 1 1 0 m capb), sL (elE g N t) (.arr .ro [.int .u8 b] M u) (vlN n cap) stop 0 false⟩) p1 _ _ _ (fun st hz => ?_) ?_
  · obtain ⟨⟨hn, hm⟩, hz⟩ := hz
    have ht := keep_tells 2 live1 st
    rw [hz] at ht
    refine CodeB.tell ht (ranges g n N cap t _ _ stop hN (by omega) hg (u2_N g n N cap t b m M capb u stop) ?_)
    refine evTo_ok EL_ok names mixed (n := 40) (b := 2) (Z := fun st => m % 4 = 0 ∧ gcSt 2 lv0 st = T3 (elE g N t) b m M capb u 0) p3 _ _ _ (fun st hz => ?_) ?_
    · obtain ⟨h4, hz⟩ := hz
      have ht := gc_tells 2 lv0 st
      rw [hz] at ht
      exact third (elE g N t) b m M capb u hM (by omega) h4 _ (fun h => by rw [aft3]; exact h) st ht
    · rw [a2_N g n N cap t b m M capb u stop (n : Int) isT fun st => m % 4 = 0 ∧ st = T3 (elE g N t) b m M capb u 0, show ((n : Int) != (n : Int)) = false from by simp]
      exact lenM_ok hM (by omega) h0 fun h4 => ⟨h4, rfl⟩
  · rw [pre_N g n N cap t b m M capb u stop isT fun st => (n ≤ 200 ∧ m ≤ 800) ∧ st = ⟨134, tm1 (.sle 1 1 0 m capb), sL (elE g N t) (.arr .ro [.int .u8 b] M u) (vlN n cap) stop 0 false⟩]
    by_cases hn : (n : Int) > 200
    · rw [decide_eq_true hn]; exact rfl
    · by_cases hm : (m : Int) > 800
      · rw [decide_eq_false hn, decide_eq_true hm]; exact rfl
      · rw [decide_eq_false hn, decide_eq_false hm]
        exact ⟨⟨by omega, by omega⟩, rfl⟩
theorem law_NE (g : Nat → Int) (n N cap : Nat) (t : TypeId) (p : Option Addr) (capb : Nat) (stop : Int) (hN : n ≤ N) (hg : ∀ j, j < n → 0 ≤ g j ∧ g j < 4294967296) : CallOk Try.prog F [.sle 0 1 0 n cap, .raw (.slice p 0 capb), .raw (.int .i64 stop)] [elE g N t, .no] fun r _ => r = .ret (bV true) := by
  refine CallOk.mono (K := rK isT) (CallOk.fnB names (by kernel_rfl) ?_) rK_ok
  refine evTo_ok EL_ok names mixed (n := 100) (b := 2) (Z := fun st => n ≤ 200 ∧ keepS live1 st = ⟨134, tm1 (.raw (.slice p 0 capb)), sL (elE g N t) .no (vlN n cap) stop 0 false⟩) p1 _ _ _ (fun st hz => ?_) ?_
  · obtain ⟨hn, hz⟩ := hz
    have ht := keep_tells 2 live1 st
    rw [hz] at ht
    refine CodeB.tell ht (ranges g n N cap t _ _ stop hN (by omega) hg (u2_E g n N cap t p capb stop) ?_)
    refine CodeB.of (evG_ok EL_ok names mixed (n := 40) ?_)
    rw [a2_E g n N cap t p capb stop (n : Int) isT, show ((n : Int) != (n : Int)) = false from by simp]
    exact rfl
  · rw [pre_E g n N cap t p capb stop isT fun st => n ≤ 200 ∧ st = ⟨134, tm1 (.raw (.slice p 0 capb)), sL (elE g N t) Ent.no (vlN n cap) stop 0 false⟩]
    by_cases hn : (n : Int) > 200
    · rw [decide_eq_true hn]; exact rfl
    · rw [decide_eq_false hn]
      exact ⟨by omega, rfl⟩
theorem law_EN (b : Nat → Int) (m M cap capb : Nat) (p : Option Addr) (u : TypeId) (stop : Int) (hM : m ≤ M) (h0 : 0 < m) : CallOk Try.prog F [.raw (.slice p 0 cap), .sle 1 1 0 m capb, .raw (.int .i64 stop)] [.no, .arr .ro [.int .u8 b] M u] fun r _ => r = .ret (bV true) := by
  refine CallOk.mono (K := rK isT) (CallOk.fnB names (by kernel_rfl) ?_) rK_ok
  refine evTo_ok EL_ok names mixed (n := 100) (b := 2) (Z := fun st => (m ≤ 800 ∧ m % 4 = 0) ∧ gcSt 2 lv0 st = T3 .no b m M capb u 0) p13 _ _ _ (fun st hz => ?_) ?_
  · obtain ⟨⟨hm, h4⟩, hz⟩ := hz
    have ht := gc_tells 2 lv0 st
    rw [hz] at ht
    rw [sub13]
    exact third .no b m M capb u hM (by omega) h4 _ (fun h => by rw [aft13]; exact h) st ht
  · rw [nil_N b m M cap capb p u stop isT fun st => (m ≤ 800 ∧ m % 4 = 0) ∧ st = T3 .no b m M capb u 0]
    by_cases hm : (m : Int) > 800
    · rw [decide_eq_true hm]; exact rfl
    · rw [decide_eq_false hm]
      exact lenM_ok hM (by omega) h0 fun h4 => ⟨⟨by omega, h4⟩, rfl⟩
theorem law_EE (cap capb : Nat) (p p' : Option Addr) (stop : Int) : CallOk Try.prog F [.raw (.slice p 0 cap), .raw (.slice p' 0 capb), .raw (.int .i64 stop)] [.no, .no] fun r _ => r = .ret (bV true) := by
  refine CallOk.mono (K := rK isT) (callG_ok EL_ok names mixed (n := 100) ?_) rK_ok
  rw [nil_E]
theorem wf_u32 {x : Int} (h : (Lit.int .u32 x).wf = true) : 0 ≤ x ∧ x < 4294967296 := by
  have h1 : IntKind.u32.min = 0 := by decide
  have h2 : IntKind.u32.max = 4294967295 := by decide
  simp only [Lit.wf, Bool.and_eq_true, decide_eq_true_eq, h1, h2] at h
  omega
def aks : List AS := [.sl [.int .u32], .sl [.int .u8], .flat (.one (.int .i64))]
theorem law_call : ∀ args s, argsOkS 0 aks args s → CallOk Try.prog 5 args s fun r _ => r = .ret (.raw (.bool true)) := law_viaA fun args s h => by
  rcases argsOkA_sl h with ⟨p, cap, vs, s', rfl, rfl, h2⟩ | ⟨n, cap, cols, vs, s', hn, rfl, rfl, hcap, hmx, hc, h2⟩
  · rcases argsOkA_sl h2 with ⟨p', capb, vs, s', rfl, rfl, h3⟩ | ⟨m, capb, colsb, vs, s', hm, rfl, rfl, hcapb, hmxb, hcb, h3⟩
    · obtain ⟨v, vs, rfl, h5, h4⟩ := argsOkA_flat h3
      obtain ⟨rfl, rfl⟩ := argsOkA_nil h4
      obtain ⟨stop, r, e, _, hr⟩ := argsOk_int h5
      cases e
      exact law_EE cap capb p p' stop
    · obtain ⟨v, vs, rfl, h5, h4⟩ := argsOkA_flat h3
      obtain ⟨rfl, rfl⟩ := argsOkA_nil h4
      obtain ⟨stop, r, e, _, hr⟩ := argsOk_int h5
      cases e
      obtain ⟨b, cs, rfl, hb, hcb⟩ := colsOkA_int hcb
      cases colsOkA_nil hcb
      exact law_EN b m m cap capb p 0 stop (Nat.le_refl m) hm
  · obtain ⟨g, cs, rfl, hg, hc⟩ := colsOkA_int hc
    cases colsOkA_nil hc
    rcases argsOkA_sl h2 with ⟨p', capb, vs, s', rfl, rfl, h3⟩ | ⟨m, capb, colsb, vs, s', hm, rfl, rfl, hcapb, hmxb, hcb, h3⟩
    · obtain ⟨v, vs, rfl, h5, h4⟩ := argsOkA_flat h3
      obtain ⟨rfl, rfl⟩ := argsOkA_nil h4
      obtain ⟨stop, r, e, _, hr⟩ := argsOk_int h5
      cases e
      exact law_NE g n n cap 0 p' capb stop (Nat.le_refl n) fun j hj => wf_u32 (hg j hj)
    · obtain ⟨v, vs, rfl, h5, h4⟩ := argsOkA_flat h3
      obtain ⟨rfl, rfl⟩ := argsOkA_nil h4
      obtain ⟨stop, r, e, _, hr⟩ := argsOk_int h5
      cases e
      obtain ⟨b, cs, rfl, hb, hcb⟩ := colsOkA_int hcb
      cases colsOkA_nil hcb
      exact law_NN g n n cap 0 b m m capb 0 stop (Nat.le_refl n) (Nat.le_refl m) hm fun j hj => wf_u32 (hg j hj)
end Go.Proofs.Ytjoopjhimgdgdaa.decRows
