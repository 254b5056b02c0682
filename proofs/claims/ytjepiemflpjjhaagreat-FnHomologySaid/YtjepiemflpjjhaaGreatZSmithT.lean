/-
  The reference's Smith form in place: the walk.
-/
import Derived.Test.YtjepiemflpjjhaaGreatZSmithR
import Derived.Test.YtjepiemflpjjhaaGreatZHermS
import Derived.Test.YtjepiemflpjjhaaGreatZInts
import Derived.Test.YtjepiemflpjjhaaGreatZBasI
set_option maxHeartbeats 8000000
set_option maxRecDepth 100000
namespace Go.Proofs.YtjepiemflpjjhaaGreat
open Go.RowKit
theorem wpList_min {P : Program} {ops : Array Oper} {rest : List Oper} {o : Oper} {A : Act} {w : World} {Q : Exit → Act → World → Prop} {x y : Operand} {t : TypeId} {m n v : Int} (hgd : o.guard = none)
  (ho : o.op = .call { callee := .builtin .min, args := #[x, y], argTypes := #[t, t] }) (hx : A.eval x = .int .i64 m) (hy : A.eval y = .int .i64 n) (hv : (if n < m then n else m) = v)
  (h : wpList P ops Q rest (A.put o.dst (.int .i64 v)) w) : wpList P ops Q (o :: rest) A w := by
 refine wpList_plain hgd fun K hK => ?_
 subst hv
 unfold Oper.wp execOp
 simp only [ho, resolve, invoke, builtin, Sem.run_bind, Sem.run_pure, Result.andThen_ok, List.map_toArray, List.map_cons, List.map_nil, hx, hy, run_min_int2]
 exact hK _ _ h
def oneIf (v : Value) : Nat := match v with
 | .bool true => 0
 | _ => 1
theorem sAll_unf {C R t : Nat} {s : SS} (h : t < R) (h2 : t < C) : sAll C R (min R C - t) t s = if (leastS s.1 C R t).1 < 0 then some s else (sA C R t s).bind fun s' => sAll C R (min R C - (t + 1)) (t + 1) (sNeg C R t s') := by
 rw [show min R C - t = (min R C - (t + 1)) + 1 by omega]; rfl
theorem sAll_end {C R t : Nat} {s : SS} (h : ¬ (t < R ∧ t < C)) : sAll C R (min R C - t) t s = some s := by
 rw [show min R C - t = 0 by omega]; rfl
theorem thrSw_c (a u v : Option Addr) (ca cu cv R C i p : Nat) (s : SS) (w : World) (h : Thr w a u v (R * C) (R * R) (C * C) ca cu cv s) (hs : Ss C R s) (hi : i < R) (hp : p < R) (hip : i ≠ p) (hR : R ≤ 24) (hC : C ≤ 24) :
  Calls Tryz.prog 146 #[.agg #[.int .i64 R, .int .i64 C, .slice a (R * C) ca], .agg #[.int .i64 R, .int .i64 R, .slice u (R * R) cu], .agg #[.int .i64 0, .int .i64 i, .int .i64 p, .int .i64 0]] w fun e w' => e = .returned (.tuple #[]) ∧ Thr w' a u v (R * C) (R * R) (C * C) ca cu cv (rSw3 C R i p s) ∧ Keep (Off a u v) w w' := by
 refine (l12Swap_c a u ca cu R C i p (s.1, s.2.1) w h.two ⟨hs.la, hs.lu, hs.na, hs.nu⟩ hi hp hip hR hC).mono ?_
 rintro e w' ⟨rfl, hT, hK⟩
 exact ⟨rfl, ⟨hT.oa, hT.ou, h.ov.keep hK (fun g hg _ => ⟨fun e => h.nav g e hg, fun e => h.nuv g e hg⟩), h.nau, h.nav, h.nuv⟩, hK.mono fun q _ hq => ⟨hq.1, hq.2.1⟩⟩
theorem thrNeg_c (a u v : Option Addr) (ca cu cv R C i : Nat) (s : SS) (w : World) (h : Thr w a u v (R * C) (R * R) (C * C) ca cu cv s) (hs : Ss C R s) (hi : i < R) (hR : R ≤ 24) (hC : C ≤ 24) :
  Calls Tryz.prog 146 #[.agg #[.int .i64 R, .int .i64 C, .slice a (R * C) ca], .agg #[.int .i64 R, .int .i64 R, .slice u (R * R) cu], .agg #[.int .i64 1, .int .i64 i, .int .i64 i, .int .i64 0]] w fun e w' => e = .returned (.tuple #[]) ∧ Thr w' a u v (R * C) (R * R) (C * C) ca cu cv (rNeg3 C R i s) ∧ Keep (Off a u v) w w' := by
 refine (l12Neg_c a u ca cu R C i (s.1, s.2.1) w h.two ⟨hs.la, hs.lu, hs.na, hs.nu⟩ hi hR hC).mono ?_
 rintro e w' ⟨rfl, hT, hK⟩
 exact ⟨rfl, ⟨hT.oa, hT.ou, h.ov.keep hK (fun g hg _ => ⟨fun e => h.nav g e hg, fun e => h.nuv g e hg⟩), h.nau, h.nav, h.nuv⟩, hK.mono fun q _ hq => ⟨hq.1, hq.2.1⟩⟩
theorem least_at {m : List Int} {C R t : Nat} (ht : t ≤ R) (htC : t ≤ C) (h : 0 ≤ (leastS m C R t).1) : ∃ r c : Nat, (leastS m C R t).1 = (r : Int) ∧ (leastS m C R t).2 = (c : Int) ∧ t ≤ r ∧ r < R ∧ t ≤ c ∧ c < C ∧ cell m C r c ≠ 0 ∧ lsR m C R t = r ∧ lsC m C R t = c := by
 rcases leastS_ok m (C := C) (R := R) (t := t) ht htC with ⟨h0, _⟩ | ⟨r, c, h1, h2, h3, h4, h5, h6, _, _⟩
 ·rw [h0] at h; simp at h
 ·exact ⟨r, c, by rw [h1], by rw [h1], h2, h3, h4, h5, h6, by unfold lsR; rw [h1]; simp, by unfold lsC; rw [h1]; simp⟩
theorem l13Smith_c (aa au av : Option Addr) (ca cu cv R C : Nat) (s0 : SS) (w : World) (hT0 : Thr w aa au av (R * C) (R * R) (C * C) ca cu cv s0) (hs0 : Ss C R s0) (hR : R ≤ 24) (hC : C ≤ 24) :
  Calls Tryz.prog 129 #[.agg #[.int .i64 R, .int .i64 C, .slice aa (R * C) ca], .agg #[.int .i64 R, .int .i64 R, .slice au (R * R) cu], .agg #[.int .i64 C, .int .i64 C, .slice av (C * C) cv]] w fun e w' => ∃ b s', e = .returned (.bool b) ∧ Thr w' aa au av (R * C) (R * R) (C * C) ca cu cv s' ∧ Keep (Off aa au av) w w' ∧ (b = true → sAll C R (min R C) 0 s0 = some s') ∧ (b = false → sAll C R (min R C) 0 s0 = none) := by
 obtain ⟨w2, hw2⟩ : ∃ w2, w2 = ((w.alloc (.cells #[.int .i64 (R : Int), .int .i64 (C : Int), .slice aa (R * C) ca] 40)).alloc (.cells #[.int .i64 (R : Int), .int .i64 (R : Int), .slice au (R * R) cu] 40)).alloc (.cells #[.int .i64 (C : Int), .int .i64 (C : Int), .slice av (C * C) cv] 40) := ⟨_, rfl⟩
 have hG2 : Grow w w2 := by rw [hw2]; exact (((Grow.refl w).alloc _ _).alloc _ _).alloc _ _
 have bA : Blk w2 w.heap.size #[.int .i64 (R : Int), .int .i64 (C : Int), .slice aa (R * C) ca] 40 := by rw [hw2]; exact ((Blk.new w _ _).alloc _).alloc _
 have bU : Blk w2 (w.heap.size + 1) #[.int .i64 (R : Int), .int .i64 (R : Int), .slice au (R * R) cu] 40 := by rw [hw2]; exact (Blk.newAt _ _ _ (by simp)).alloc _
 have bV : Blk w2 (w.heap.size + 1 + 1) #[.int .i64 (C : Int), .int .i64 (C : Int), .slice av (C * C) cv] 40 := by rw [hw2]; exact Blk.newAt _ _ _ (by simp)
 have Hw2 := Lib.hid hw2; clear hw2
 have hTT := hT0.grow hG2
 have oA : Off aa au av w.heap.size := ⟨fun e => by have := hT0.oa.lt e; omega, fun e => by have := hT0.ou.lt e; omega, fun e => by have := hT0.ov.lt e; omega⟩
 have oU : Off aa au av (w.heap.size + 1) := ⟨fun e => by have := hT0.oa.lt e; omega, fun e => by have := hT0.ou.lt e; omega, fun e => by have := hT0.ov.lt e; omega⟩
 have oV : Off aa au av (w.heap.size + 1 + 1) := ⟨fun e => by have := hT0.oa.lt e; omega, fun e => by have := hT0.ou.lt e; omega, fun e => by have := hT0.ov.lt e; omega⟩
 have hRC : R * C ≤ 24 * 24 := Nat.mul_le_mul hR hC
 have hRR : R * R ≤ 24 * 24 := Nat.mul_le_mul hR hR
 have hCC : C * C ≤ 24 * 24 := Nat.mul_le_mul hC hC
 obtain ⟨res, hres⟩ : ∃ res, res = sAll C R (min R C) 0 s0 := ⟨_, rfl⟩
 rw [← hres]
 clear hT0
 obtain ⟨M, hM⟩ : ∃ M, M = min R C := ⟨_, rfl⟩
 have HM := Lib.hid hM
 have hmin : (if (C : Int) < (R : Int) then (C : Int) else (R : Int)) = (M : Int) := by split <;> omega
 clear hM
 go_enter Tryz.func129, Tryz.ntmps129
 go_wp2
 rw [← Hw2.out]
 go_loopw [7] (fun tv wr => Keep (Off aa au av) w2 wr ∧ ∃ (t : Nat) (s : SS), t ≤ 24 ∧ tv = .int .i64 t ∧ Thr wr aa au av (R * C) (R * R) (C * C) ca cu cv s ∧ Ss C R s ∧ sAll C R (min R C - t) t s = res) (fun tv _ => 24 - (intOf tv).toNat)
 case atStart => exact ⟨Keep.refl _ _, 0, s0, by omega, rfl, hTT, hs0, hres.symm⟩
 case round =>
  clear hTT hs0 hres
  obtain ⟨hK, t, s, ht24, rfl, hT, hs, hh⟩ := hrel
  have Hh := Lib.hid hh; clear hh
  have bAr := bA.keep hK oA
  obtain ⟨⟨a0, a1, a2⟩, -⟩ := bAr.three
  have hltA := bAr.lt
  by_cases hlt : t < R ∧ t < C
  ·obtain ⟨ht, htC⟩ := hlt
   have htM : t < M := by have := HM.out; omega
   go_wp2_with (refine wpList_min (o := ⟨some 16, _, _, _, _, _⟩) rfl rfl rfl rfl hmin ?_)
   clear a0 a1 a2 hltA bAr
   go_loopw [8] (fun dv wr => Keep (Off aa au av) w2 wr ∧ ∃ (b : Bool) (s : SS), dv = .bool b ∧ Thr wr aa au av (R * C) (R * R) (C * C) ca cu cv s ∧ Ss C R s ∧ ((b = false ∧ sAll C R (min R C - t) t s = res) ∨ (b = true ∧ sAll C R (min R C - (t + 1)) (t + 1) (sNeg C R t s) = res))) (fun dv wr => oneIf dv * (mu3 (rdL wr aa (R * C)) C R t + 1))
   case atStart => exact ⟨hK, false, s, rfl, hT, hs, .inl ⟨rfl, Hh.out⟩⟩
   case round =>
    clear hK hT hs Hh
    obtain ⟨hK, b, s, rfl, hT, hs, hst⟩ := hrel
    have bAr := bA.keep hK oA
    obtain ⟨⟨a0, a1, a2⟩, -⟩ := bAr.three
    have hltA := bAr.lt
    have hrA := hT.oa.rdI (S := fun _ => True) (fun _ _ => trivial) (num_rng hs.na)
    have Hmu := Lib.hid (rdL_own hT.oa)
    rcases hst with ⟨rfl, hh⟩ | ⟨rfl, hh⟩
    ·rw [sAll_unf ht htC] at hh
     go_wp2_with fail
     refine (l13Least_c aa _ ca C R t s.1 _ hrA hs.la hs.na (by omega) (by omega) hR hC).mono ?_
     rintro e w3 ⟨rfl, hG3⟩
     have hK3 := hK.trans hG3.any
     have hT3 := hT.grow hG3
     clear a0 a1 a2 hltA hrA bAr
     by_cases hl0 : (leastS s.1 C R t).1 < 0
     ·rw [if_pos hl0] at hh
      have Hh := Lib.hid hh; clear hh
      have q1 : decide ((leastS s.1 C R t).1 < 0) = true := decide_eq_true hl0
      go_wp2
      go_ret
      exact ⟨true, s, rfl, hT3, hG2.any.trans hK3, (fun _ => Hh.out.symm), fun h => by cases h⟩
     ·rw [if_neg hl0] at hh
      have Hh := Lib.hid hh; clear hh
      obtain ⟨r, c, hr1, hc1, htr, hrR, htc, hcC, hne, hlr, hlc⟩ := least_at (m := s.1) (C := C) (R := R) (t := t) (by omega) (by omega) (by omega)
      have hrnd : rnd C R t s = rnd1 C R t (toPiv C R t r c s) := by unfold rnd; rw [hlr, hlc]
      have hspec := fun s' b' (h0 : rnd C R t s = some (s', b')) => rnd_spec ht htC hs (by omega) h0
      have hdone := fun s' (h0 : rnd C R t s = some (s', true)) => sA_done h0
      have hstep := fun s' (h0 : rnd C R t s = some (s', false)) => sA_step ht htC hs (by omega) h0
      have hnone := fun (h0 : rnd C R t s = none) => sA_none h0
      rw [hrnd] at hspec hdone hstep hnone
      have hpc := toPiv_cell hs hrR hcC ht htC
      have hp6 := toPiv_ss (t := t) (r := r) (c := c) hs
      rw [← hpc] at hne
      rw [hr1, hc1]
      have Hspec := Lib.hid hspec; have Hdone := Lib.hid hdone; have Hstep := Lib.hid hstep; have Hnone := Lib.hid hnone
      have Hne := Lib.hid hne
      have q0 : decide ((r : Int) < 0) = false := decide_eq_false (by omega)
      clear hspec hdone hstep hnone hrnd hlr hlc hr1 hc1 hl0 hpc hne hp6 hT hK
      by_cases hrt : r = t
      ·have q1 : ((r : Int) != (t : Int)) = false := by simp [hrt]
       have Hs5 := Lib.hid (show s = if r = t then s else rSw3 C R r t s by rw [if_pos hrt])
       have hT5 := hT3; have hK5 := hK3; have hs5 := hs
       obtain ⟨w5, hw5⟩ : ∃ w5, w5 = w3 := ⟨_, rfl⟩
       rw [← hw5] at hT5 hK5 ⊢
       clear hw5
       obtain ⟨s5, hs5e⟩ : ∃ s5, s5 = s := ⟨_, rfl⟩
       rw [show s = s5 from hs5e.symm] at hT5 hs5
       replace Hs5 := Lib.hid (show s5 = if r = t then s else rSw3 C R r t s by rw [hs5e]; exact Hs5.out)
       clear hs5e hT3 hK3 hrt
       by_cases hct : c = t
       ·have q2 : ((c : Int) != (t : Int)) = false := by simp [hct]
        have hT6 := hT5; have hK6 := hK5; have hs6 := hs5
        have Hpv := Lib.hid (show toPiv C R t r c s = s5 by rw [Hs5.out]; unfold toPiv; rw [if_pos hct])
        clear hT5 hK5 hs5
        obtain ⟨w6, hw6⟩ : ∃ w6, w6 = w5 := ⟨_, rfl⟩
        rw [← hw6] at hT6 hK6 ⊢
        clear hw6
        obtain ⟨s6, hs6e⟩ : ∃ s6, s6 = s5 := ⟨_, rfl⟩
        rw [← hs6e] at hT6 hs6 Hpv
        clear hs6e Hs5 hct
        have hne6 : cell s6.1 C t t ≠ 0 := by have := Hne.out; rwa [Hpv.out] at this
        have hsp6 : ∀ s' b', rnd1 C R t s6 = some (s', b') → Ss C R s' ∧ (b' = false → 0 ≤ (leastS s'.1 C R t).1 ∧ mu3 s'.1 C R t < mu3 s.1 C R t) := by have := Hspec.out; rwa [Hpv.out] at this
        have hdn6 : ∀ s', rnd1 C R t s6 = some (s', true) → sA C R t s = some s' := by have := Hdone.out; rwa [Hpv.out] at this
        have hst6 : ∀ s', rnd1 C R t s6 = some (s', false) → sA C R t s = sA C R t s' := by have := Hstep.out; rwa [Hpv.out] at this
        have hno6 : rnd1 C R t s6 = none → sA C R t s = none := by have := Hnone.out; rwa [Hpv.out] at this
        have Hsp6 := Lib.hid hsp6; have Hdn6 := Lib.hid hdn6; have Hst6 := Lib.hid hst6; have Hno6 := Lib.hid hno6
        clear hsp6 hdn6 hst6 hno6 Hspec Hdone Hstep Hnone Hne Hpv
        have bA6 := bA.keep hK6 oA
        have bU6 := bU.keep hK6 oU
        have bV6 := bV.keep hK6 oV
        obtain ⟨⟨a0, a1, a2⟩, -⟩ := bA6.three
        obtain ⟨⟨b0, b1, b2⟩, -⟩ := bU6.three
        obtain ⟨⟨v0, v1, v2⟩, -⟩ := bV6.three
        have hltA := bA6.lt
        have hltU := bU6.lt
        have hltV := bV6.lt
        go_wp2_with fail
        refine (l13Round_c aa au av ca cu cv R C t s6 _ hT6 hs6 ht htC hne6 hR hC).mono ?_
        rintro e w8 ⟨b', s', rfl, hT8, hm8, hK68, hF⟩
        have hK8 := hK6.trans hK68
        clear a0 a1 a2 b0 b1 b2 v0 v1 v2 hltA hltU hltV bA6 bU6 bV6
        have bA8 := bA.keep hK8 oA
        have bU8 := bU.keep hK8 oU
        have bV8 := bV.keep hK8 oV
        have rA8 := hT8.oa.rdI (S := fun _ => True) (fun _ _ => trivial) (bl_rng hm8.na)
        have rU8 := hT8.ou.rdI (S := fun _ => True) (fun _ _ => trivial) (bl_rng hm8.nu)
        have rV8 := hT8.ov.rdI (S := fun _ => True) (fun _ _ => trivial) (bl_rng hm8.nv)
        obtain ⟨⟨a0, a1, a2⟩, -⟩ := bA8.three
        have hltA := bA8.lt
        go_wp2_with fail
        refine (l1Bads_c aa _ ca s'.1 _ rA8 (by omega)).mono ?_
        rintro e w9 ⟨rfl, hQ9⟩
        have hG9 := hQ9.grow
        clear a0 a1 a2 hltA
        obtain ⟨⟨b0, b1, b2⟩, -⟩ := (bU8.grow hG9).three
        have hltU := (bU8.grow hG9).lt
        rcases hF with hF | ⟨hF, hMk⟩
        ·obtain ⟨hs8, hmu8⟩ := Hsp6.out s' b' hF
         have Hdn := Lib.hid (fun h : b' = true => Hdn6.out s' (by rw [hF, h]))
         have Hst := Lib.hid (fun h : b' = false => Hst6.out s' (by rw [hF, h]))
         have Hmu8 := Lib.hid hmu8
         rw [hasBad_no hs8.na]
         clear hF hmu8 Hsp6 Hdn6 Hst6 Hno6
         go_wp2_with fail
         refine (l1Bads_c au _ cu s'.2.1 _ (rU8.grow hG9) (by omega)).mono ?_
         rintro e w10 ⟨rfl, hQ10⟩
         rw [hasBad_no hs8.nu]
         have hG10 := hG9.trans hQ10.grow
         clear b0 b1 b2 hltU
         obtain ⟨⟨v0, v1, v2⟩, -⟩ := (bV8.grow hG10).three
         have hltV := (bV8.grow hG10).lt
         go_wp2_with fail
         refine (l1Bads_c av _ cv s'.2.2 _ (rV8.grow hG10) (by omega)).mono ?_
         rintro e w11 ⟨rfl, hQ11⟩
         rw [hasBad_no hs8.nv]
         have hG11 := hG10.trans hQ11.grow
         clear v0 v1 v2 hltV
         have hT11 := hT8.grow hG11
         have Hmu11 := Lib.hid (rdL_own hT11.oa)
         go_wp2
         go_roundw
         case rel =>
          refine ⟨hK8.trans hG11.any, b', s', rfl, hT11, hs8, ?_⟩
          cases b' with
          | true => exact .inr ⟨rfl, by rw [← Hh.out, Hdn.out rfl]; rfl⟩
          | false => exact .inl ⟨rfl, by rw [sAll_unf ht htC, if_neg (by have := (Hmu8.out rfl).1; omega), ← Hst.out rfl]; exact Hh.out⟩
         case measure =>
          show oneIf (.bool b') * (mu3 (rdL w11 aa (R * C)) C R t + 1) < oneIf (.bool false) * (mu3 (rdL wr aa (R * C)) C R t + 1)
          rw [Hmu11.out, Hmu.out]
          cases b' with
          | true => simp [oneIf]
          | false =>
           have := (Hmu8.out rfl).2
           simp only [oneIf, Nat.one_mul]; omega
        ·have HN := Lib.hid (show res = none by rw [← Hh.out, Hno6.out hF]; rfl)
         clear Hsp6 Hdn6 Hst6 Hno6 hF
         cases hba : hasBad s'.1 with
         | true =>
          have hTo := hT8.grow hG9
          have hKo := hK8.trans hG9.any
          go_wp2
          go_ret
          exact ⟨false, s', rfl, hTo, (hG2.any.trans hKo), (fun h => by cases h), fun _ => HN.out⟩
         | false =>
          have hm2 : badN ∈ s'.2.1 ∨ badN ∈ s'.2.2 := hMk.resolve_left fun h => by rw [hasBad_iff.2 h] at hba; cases hba
          go_wp2_with fail
          refine (l1Bads_c au _ cu s'.2.1 _ (rU8.grow hG9) (by omega)).mono ?_
          rintro e w10 ⟨rfl, hQ10⟩
          have hG10 := hG9.trans hQ10.grow
          clear b0 b1 b2 hltU
          obtain ⟨⟨v0, v1, v2⟩, -⟩ := (bV8.grow hG10).three
          have hltV := (bV8.grow hG10).lt
          cases hbu : hasBad s'.2.1 with
          | true =>
           have hTo := hT8.grow hG10
           have hKo := hK8.trans hG10.any
           go_wp2
           go_ret
           exact ⟨false, s', rfl, hTo, (hG2.any.trans hKo), (fun h => by cases h), fun _ => HN.out⟩
          | false =>
           have hbv : hasBad s'.2.2 = true := hasBad_iff.2 (hm2.resolve_left fun h => by rw [hasBad_iff.2 h] at hbu; cases hbu)
           go_wp2_with fail
           refine (l1Bads_c av _ cv s'.2.2 _ (rV8.grow hG10) (by omega)).mono ?_
           rintro e w11 ⟨rfl, hQ11⟩
           rw [hbv]
           have hTo := hT8.grow (hG10.trans hQ11.grow)
           have hKo := hK8.trans (hG10.trans hQ11.grow).any
           go_wp2
           go_ret
           exact ⟨false, s', rfl, hTo, (hG2.any.trans hKo), (fun h => by cases h), fun _ => HN.out⟩
       ·have q2 : ((c : Int) != (t : Int)) = true := by simp; omega
        have Hpv := Lib.hid (show toPiv C R t r c s = cSw3 C R c t s5 by rw [Hs5.out]; unfold toPiv; rw [if_neg hct])
        have bA5 := bA.keep hK5 oA
        obtain ⟨⟨a0, a1, a2⟩, -⟩ := bA5.three
        have hltA := bA5.lt
        go_wp2_with fail
        refine (l13Swap_c aa _ ca C R c t 0 s5.1 _ hT5.oa hs5.la hcC htC hct hR hC).mono ?_
        rintro e w7 ⟨rfl, oA7, hK7⟩
        have hK57 : Keep (Off aa au av) w5 w7 := hK7.mono fun q _ hq => hq.1
        have bV7 := (bV.keep hK5 oV).keep hK57 oV
        have oU7 := hT5.ou.keep hK7 (fun g hg _ e => hT5.nau g e hg)
        have oV7 := hT5.ov.keep hK7 (fun g hg _ e => hT5.nav g e hg)
        clear a0 a1 a2 hltA
        obtain ⟨⟨v0, v1, v2⟩, -⟩ := bV7.three
        have hltV := bV7.lt
        go_wp2_with fail
        refine (l13Swap_c av _ cv C C c t 0 s5.2.2 _ oV7 hs5.lv hcC htC hct hC hC).mono ?_
        rintro e w6 ⟨rfl, oV6, hK67⟩
        have hT6 : Thr w6 aa au av (R * C) (R * R) (C * C) ca cu cv (cSw3 C R c t s5) := ⟨oA7.keep hK67 (fun g hg _ e => hT5.nav g hg e), oU7.keep hK67 (fun g hg _ e => hT5.nuv g hg e), oV6, hT5.nau, hT5.nav, hT5.nuv⟩
        have hK6 : Keep (Off aa au av) w2 w6 := (hK5.trans hK57).trans (hK67.mono fun q _ hq => hq.2.2)
        have hs6 := cSw3_ss (i := c) (p := t) hs5
        clear v0 v1 v2 hltV hT5 hK5 oU7 oV7 oA7 oV6
        generalize cSw3 C R c t s5 = s6 at *
        clear hs5 Hs5 hct
        have hne6 : cell s6.1 C t t ≠ 0 := by have := Hne.out; rwa [Hpv.out] at this
        have hsp6 : ∀ s' b', rnd1 C R t s6 = some (s', b') → Ss C R s' ∧ (b' = false → 0 ≤ (leastS s'.1 C R t).1 ∧ mu3 s'.1 C R t < mu3 s.1 C R t) := by have := Hspec.out; rwa [Hpv.out] at this
        have hdn6 : ∀ s', rnd1 C R t s6 = some (s', true) → sA C R t s = some s' := by have := Hdone.out; rwa [Hpv.out] at this
        have hst6 : ∀ s', rnd1 C R t s6 = some (s', false) → sA C R t s = sA C R t s' := by have := Hstep.out; rwa [Hpv.out] at this
        have hno6 : rnd1 C R t s6 = none → sA C R t s = none := by have := Hnone.out; rwa [Hpv.out] at this
        have Hsp6 := Lib.hid hsp6; have Hdn6 := Lib.hid hdn6; have Hst6 := Lib.hid hst6; have Hno6 := Lib.hid hno6
        clear hsp6 hdn6 hst6 hno6 Hspec Hdone Hstep Hnone Hne Hpv
        have bA6 := bA.keep hK6 oA
        have bU6 := bU.keep hK6 oU
        have bV6 := bV.keep hK6 oV
        obtain ⟨⟨a0, a1, a2⟩, -⟩ := bA6.three
        obtain ⟨⟨b0, b1, b2⟩, -⟩ := bU6.three
        obtain ⟨⟨v0, v1, v2⟩, -⟩ := bV6.three
        have hltA := bA6.lt
        have hltU := bU6.lt
        have hltV := bV6.lt
        go_wp2_with fail
        refine (l13Round_c aa au av ca cu cv R C t s6 _ hT6 hs6 ht htC hne6 hR hC).mono ?_
        rintro e w8 ⟨b', s', rfl, hT8, hm8, hK68, hF⟩
        have hK8 := hK6.trans hK68
        clear a0 a1 a2 b0 b1 b2 v0 v1 v2 hltA hltU hltV bA6 bU6 bV6
        have bA8 := bA.keep hK8 oA
        have bU8 := bU.keep hK8 oU
        have bV8 := bV.keep hK8 oV
        have rA8 := hT8.oa.rdI (S := fun _ => True) (fun _ _ => trivial) (bl_rng hm8.na)
        have rU8 := hT8.ou.rdI (S := fun _ => True) (fun _ _ => trivial) (bl_rng hm8.nu)
        have rV8 := hT8.ov.rdI (S := fun _ => True) (fun _ _ => trivial) (bl_rng hm8.nv)
        obtain ⟨⟨a0, a1, a2⟩, -⟩ := bA8.three
        have hltA := bA8.lt
        go_wp2_with fail
        refine (l1Bads_c aa _ ca s'.1 _ rA8 (by omega)).mono ?_
        rintro e w9 ⟨rfl, hQ9⟩
        have hG9 := hQ9.grow
        clear a0 a1 a2 hltA
        obtain ⟨⟨b0, b1, b2⟩, -⟩ := (bU8.grow hG9).three
        have hltU := (bU8.grow hG9).lt
        rcases hF with hF | ⟨hF, hMk⟩
        ·obtain ⟨hs8, hmu8⟩ := Hsp6.out s' b' hF
         have Hdn := Lib.hid (fun h : b' = true => Hdn6.out s' (by rw [hF, h]))
         have Hst := Lib.hid (fun h : b' = false => Hst6.out s' (by rw [hF, h]))
         have Hmu8 := Lib.hid hmu8
         rw [hasBad_no hs8.na]
         clear hF hmu8 Hsp6 Hdn6 Hst6 Hno6
         go_wp2_with fail
         refine (l1Bads_c au _ cu s'.2.1 _ (rU8.grow hG9) (by omega)).mono ?_
         rintro e w10 ⟨rfl, hQ10⟩
         rw [hasBad_no hs8.nu]
         have hG10 := hG9.trans hQ10.grow
         clear b0 b1 b2 hltU
         obtain ⟨⟨v0, v1, v2⟩, -⟩ := (bV8.grow hG10).three
         have hltV := (bV8.grow hG10).lt
         go_wp2_with fail
         refine (l1Bads_c av _ cv s'.2.2 _ (rV8.grow hG10) (by omega)).mono ?_
         rintro e w11 ⟨rfl, hQ11⟩
         rw [hasBad_no hs8.nv]
         have hG11 := hG10.trans hQ11.grow
         clear v0 v1 v2 hltV
         have hT11 := hT8.grow hG11
         have Hmu11 := Lib.hid (rdL_own hT11.oa)
         go_wp2
         go_roundw
         case rel =>
          refine ⟨hK8.trans hG11.any, b', s', rfl, hT11, hs8, ?_⟩
          cases b' with
          | true => exact .inr ⟨rfl, by rw [← Hh.out, Hdn.out rfl]; rfl⟩
          | false => exact .inl ⟨rfl, by rw [sAll_unf ht htC, if_neg (by have := (Hmu8.out rfl).1; omega), ← Hst.out rfl]; exact Hh.out⟩
         case measure =>
          show oneIf (.bool b') * (mu3 (rdL w11 aa (R * C)) C R t + 1) < oneIf (.bool false) * (mu3 (rdL wr aa (R * C)) C R t + 1)
          rw [Hmu11.out, Hmu.out]
          cases b' with
          | true => simp [oneIf]
          | false =>
           have := (Hmu8.out rfl).2
           simp only [oneIf, Nat.one_mul]; omega
        ·have HN := Lib.hid (show res = none by rw [← Hh.out, Hno6.out hF]; rfl)
         clear Hsp6 Hdn6 Hst6 Hno6 hF
         cases hba : hasBad s'.1 with
         | true =>
          have hTo := hT8.grow hG9
          have hKo := hK8.trans hG9.any
          go_wp2
          go_ret
          exact ⟨false, s', rfl, hTo, (hG2.any.trans hKo), (fun h => by cases h), fun _ => HN.out⟩
         | false =>
          have hm2 : badN ∈ s'.2.1 ∨ badN ∈ s'.2.2 := hMk.resolve_left fun h => by rw [hasBad_iff.2 h] at hba; cases hba
          go_wp2_with fail
          refine (l1Bads_c au _ cu s'.2.1 _ (rU8.grow hG9) (by omega)).mono ?_
          rintro e w10 ⟨rfl, hQ10⟩
          have hG10 := hG9.trans hQ10.grow
          clear b0 b1 b2 hltU
          obtain ⟨⟨v0, v1, v2⟩, -⟩ := (bV8.grow hG10).three
          have hltV := (bV8.grow hG10).lt
          cases hbu : hasBad s'.2.1 with
          | true =>
           have hTo := hT8.grow hG10
           have hKo := hK8.trans hG10.any
           go_wp2
           go_ret
           exact ⟨false, s', rfl, hTo, (hG2.any.trans hKo), (fun h => by cases h), fun _ => HN.out⟩
          | false =>
           have hbv : hasBad s'.2.2 = true := hasBad_iff.2 (hm2.resolve_left fun h => by rw [hasBad_iff.2 h] at hbu; cases hbu)
           go_wp2_with fail
           refine (l1Bads_c av _ cv s'.2.2 _ (rV8.grow hG10) (by omega)).mono ?_
           rintro e w11 ⟨rfl, hQ11⟩
           rw [hbv]
           have hTo := hT8.grow (hG10.trans hQ11.grow)
           have hKo := hK8.trans (hG10.trans hQ11.grow).any
           go_wp2
           go_ret
           exact ⟨false, s', rfl, hTo, (hG2.any.trans hKo), (fun h => by cases h), fun _ => HN.out⟩
      ·have q1 : ((r : Int) != (t : Int)) = true := by simp; omega
       have bA3 := bA.keep hK3 oA
       have bU3 := bU.keep hK3 oU
       obtain ⟨⟨a0, a1, a2⟩, -⟩ := bA3.three
       obtain ⟨⟨b0, b1, b2⟩, -⟩ := bU3.three
       have hltA := bA3.lt
       have hltU := bU3.lt
       go_wp2_with fail
       refine (thrSw_c aa au av ca cu cv R C r t s _ hT3 hs hrR ht hrt hR hC).mono ?_
       rintro e w5 ⟨rfl, hT5, hK35⟩
       have hK5 := hK3.trans hK35
       have hs5 := rSw3_ss (p := r) (t := t) hs
       have Hs5 := Lib.hid (show rSw3 C R r t s = if r = t then s else rSw3 C R r t s by rw [if_neg hrt])
       clear a0 a1 a2 b0 b1 b2 hltA hltU hT3 hK3 bA3 bU3 hK35 hrt
       generalize hs5e : rSw3 C R r t s = s5 at hT5 hs5
       replace Hs5 := Lib.hid (show s5 = if r = t then s else rSw3 C R r t s by rw [← hs5e]; exact Hs5.out)
       clear hs5e
       by_cases hct : c = t
       ·have q2 : ((c : Int) != (t : Int)) = false := by simp [hct]
        have hT6 := hT5; have hK6 := hK5; have hs6 := hs5
        have Hpv := Lib.hid (show toPiv C R t r c s = s5 by rw [Hs5.out]; unfold toPiv; rw [if_pos hct])
        clear hT5 hK5 hs5
        obtain ⟨w6, hw6⟩ : ∃ w6, w6 = w5 := ⟨_, rfl⟩
        rw [← hw6] at hT6 hK6 ⊢
        clear hw6
        obtain ⟨s6, hs6e⟩ : ∃ s6, s6 = s5 := ⟨_, rfl⟩
        rw [← hs6e] at hT6 hs6 Hpv
        clear hs6e Hs5 hct
        have hne6 : cell s6.1 C t t ≠ 0 := by have := Hne.out; rwa [Hpv.out] at this
        have hsp6 : ∀ s' b', rnd1 C R t s6 = some (s', b') → Ss C R s' ∧ (b' = false → 0 ≤ (leastS s'.1 C R t).1 ∧ mu3 s'.1 C R t < mu3 s.1 C R t) := by have := Hspec.out; rwa [Hpv.out] at this
        have hdn6 : ∀ s', rnd1 C R t s6 = some (s', true) → sA C R t s = some s' := by have := Hdone.out; rwa [Hpv.out] at this
        have hst6 : ∀ s', rnd1 C R t s6 = some (s', false) → sA C R t s = sA C R t s' := by have := Hstep.out; rwa [Hpv.out] at this
        have hno6 : rnd1 C R t s6 = none → sA C R t s = none := by have := Hnone.out; rwa [Hpv.out] at this
        have Hsp6 := Lib.hid hsp6; have Hdn6 := Lib.hid hdn6; have Hst6 := Lib.hid hst6; have Hno6 := Lib.hid hno6
        clear hsp6 hdn6 hst6 hno6 Hspec Hdone Hstep Hnone Hne Hpv
        have bA6 := bA.keep hK6 oA
        have bU6 := bU.keep hK6 oU
        have bV6 := bV.keep hK6 oV
        obtain ⟨⟨a0, a1, a2⟩, -⟩ := bA6.three
        obtain ⟨⟨b0, b1, b2⟩, -⟩ := bU6.three
        obtain ⟨⟨v0, v1, v2⟩, -⟩ := bV6.three
        have hltA := bA6.lt
        have hltU := bU6.lt
        have hltV := bV6.lt
        go_wp2_with fail
        refine (l13Round_c aa au av ca cu cv R C t s6 _ hT6 hs6 ht htC hne6 hR hC).mono ?_
        rintro e w8 ⟨b', s', rfl, hT8, hm8, hK68, hF⟩
        have hK8 := hK6.trans hK68
        clear a0 a1 a2 b0 b1 b2 v0 v1 v2 hltA hltU hltV bA6 bU6 bV6
        have bA8 := bA.keep hK8 oA
        have bU8 := bU.keep hK8 oU
        have bV8 := bV.keep hK8 oV
        have rA8 := hT8.oa.rdI (S := fun _ => True) (fun _ _ => trivial) (bl_rng hm8.na)
        have rU8 := hT8.ou.rdI (S := fun _ => True) (fun _ _ => trivial) (bl_rng hm8.nu)
        have rV8 := hT8.ov.rdI (S := fun _ => True) (fun _ _ => trivial) (bl_rng hm8.nv)
        obtain ⟨⟨a0, a1, a2⟩, -⟩ := bA8.three
        have hltA := bA8.lt
        go_wp2_with fail
        refine (l1Bads_c aa _ ca s'.1 _ rA8 (by omega)).mono ?_
        rintro e w9 ⟨rfl, hQ9⟩
        have hG9 := hQ9.grow
        clear a0 a1 a2 hltA
        obtain ⟨⟨b0, b1, b2⟩, -⟩ := (bU8.grow hG9).three
        have hltU := (bU8.grow hG9).lt
        rcases hF with hF | ⟨hF, hMk⟩
        ·obtain ⟨hs8, hmu8⟩ := Hsp6.out s' b' hF
         have Hdn := Lib.hid (fun h : b' = true => Hdn6.out s' (by rw [hF, h]))
         have Hst := Lib.hid (fun h : b' = false => Hst6.out s' (by rw [hF, h]))
         have Hmu8 := Lib.hid hmu8
         rw [hasBad_no hs8.na]
         clear hF hmu8 Hsp6 Hdn6 Hst6 Hno6
         go_wp2_with fail
         refine (l1Bads_c au _ cu s'.2.1 _ (rU8.grow hG9) (by omega)).mono ?_
         rintro e w10 ⟨rfl, hQ10⟩
         rw [hasBad_no hs8.nu]
         have hG10 := hG9.trans hQ10.grow
         clear b0 b1 b2 hltU
         obtain ⟨⟨v0, v1, v2⟩, -⟩ := (bV8.grow hG10).three
         have hltV := (bV8.grow hG10).lt
         go_wp2_with fail
         refine (l1Bads_c av _ cv s'.2.2 _ (rV8.grow hG10) (by omega)).mono ?_
         rintro e w11 ⟨rfl, hQ11⟩
         rw [hasBad_no hs8.nv]
         have hG11 := hG10.trans hQ11.grow
         clear v0 v1 v2 hltV
         have hT11 := hT8.grow hG11
         have Hmu11 := Lib.hid (rdL_own hT11.oa)
         go_wp2
         go_roundw
         case rel =>
          refine ⟨hK8.trans hG11.any, b', s', rfl, hT11, hs8, ?_⟩
          cases b' with
          | true => exact .inr ⟨rfl, by rw [← Hh.out, Hdn.out rfl]; rfl⟩
          | false => exact .inl ⟨rfl, by rw [sAll_unf ht htC, if_neg (by have := (Hmu8.out rfl).1; omega), ← Hst.out rfl]; exact Hh.out⟩
         case measure =>
          show oneIf (.bool b') * (mu3 (rdL w11 aa (R * C)) C R t + 1) < oneIf (.bool false) * (mu3 (rdL wr aa (R * C)) C R t + 1)
          rw [Hmu11.out, Hmu.out]
          cases b' with
          | true => simp [oneIf]
          | false =>
           have := (Hmu8.out rfl).2
           simp only [oneIf, Nat.one_mul]; omega
        ·have HN := Lib.hid (show res = none by rw [← Hh.out, Hno6.out hF]; rfl)
         clear Hsp6 Hdn6 Hst6 Hno6 hF
         cases hba : hasBad s'.1 with
         | true =>
          have hTo := hT8.grow hG9
          have hKo := hK8.trans hG9.any
          go_wp2
          go_ret
          exact ⟨false, s', rfl, hTo, (hG2.any.trans hKo), (fun h => by cases h), fun _ => HN.out⟩
         | false =>
          have hm2 : badN ∈ s'.2.1 ∨ badN ∈ s'.2.2 := hMk.resolve_left fun h => by rw [hasBad_iff.2 h] at hba; cases hba
          go_wp2_with fail
          refine (l1Bads_c au _ cu s'.2.1 _ (rU8.grow hG9) (by omega)).mono ?_
          rintro e w10 ⟨rfl, hQ10⟩
          have hG10 := hG9.trans hQ10.grow
          clear b0 b1 b2 hltU
          obtain ⟨⟨v0, v1, v2⟩, -⟩ := (bV8.grow hG10).three
          have hltV := (bV8.grow hG10).lt
          cases hbu : hasBad s'.2.1 with
          | true =>
           have hTo := hT8.grow hG10
           have hKo := hK8.trans hG10.any
           go_wp2
           go_ret
           exact ⟨false, s', rfl, hTo, (hG2.any.trans hKo), (fun h => by cases h), fun _ => HN.out⟩
          | false =>
           have hbv : hasBad s'.2.2 = true := hasBad_iff.2 (hm2.resolve_left fun h => by rw [hasBad_iff.2 h] at hbu; cases hbu)
           go_wp2_with fail
           refine (l1Bads_c av _ cv s'.2.2 _ (rV8.grow hG10) (by omega)).mono ?_
           rintro e w11 ⟨rfl, hQ11⟩
           rw [hbv]
           have hTo := hT8.grow (hG10.trans hQ11.grow)
           have hKo := hK8.trans (hG10.trans hQ11.grow).any
           go_wp2
           go_ret
           exact ⟨false, s', rfl, hTo, (hG2.any.trans hKo), (fun h => by cases h), fun _ => HN.out⟩
       ·have q2 : ((c : Int) != (t : Int)) = true := by simp; omega
        have Hpv := Lib.hid (show toPiv C R t r c s = cSw3 C R c t s5 by rw [Hs5.out]; unfold toPiv; rw [if_neg hct])
        have bA5 := bA.keep hK5 oA
        obtain ⟨⟨a0, a1, a2⟩, -⟩ := bA5.three
        have hltA := bA5.lt
        go_wp2_with fail
        refine (l13Swap_c aa _ ca C R c t 0 s5.1 _ hT5.oa hs5.la hcC htC hct hR hC).mono ?_
        rintro e w7 ⟨rfl, oA7, hK7⟩
        have hK57 : Keep (Off aa au av) w5 w7 := hK7.mono fun q _ hq => hq.1
        have bV7 := (bV.keep hK5 oV).keep hK57 oV
        have oU7 := hT5.ou.keep hK7 (fun g hg _ e => hT5.nau g e hg)
        have oV7 := hT5.ov.keep hK7 (fun g hg _ e => hT5.nav g e hg)
        clear a0 a1 a2 hltA
        obtain ⟨⟨v0, v1, v2⟩, -⟩ := bV7.three
        have hltV := bV7.lt
        go_wp2_with fail
        refine (l13Swap_c av _ cv C C c t 0 s5.2.2 _ oV7 hs5.lv hcC htC hct hC hC).mono ?_
        rintro e w6 ⟨rfl, oV6, hK67⟩
        have hT6 : Thr w6 aa au av (R * C) (R * R) (C * C) ca cu cv (cSw3 C R c t s5) := ⟨oA7.keep hK67 (fun g hg _ e => hT5.nav g hg e), oU7.keep hK67 (fun g hg _ e => hT5.nuv g hg e), oV6, hT5.nau, hT5.nav, hT5.nuv⟩
        have hK6 : Keep (Off aa au av) w2 w6 := (hK5.trans hK57).trans (hK67.mono fun q _ hq => hq.2.2)
        have hs6 := cSw3_ss (i := c) (p := t) hs5
        clear v0 v1 v2 hltV hT5 hK5 oU7 oV7 oA7 oV6
        generalize cSw3 C R c t s5 = s6 at *
        clear hs5 Hs5 hct
        have hne6 : cell s6.1 C t t ≠ 0 := by have := Hne.out; rwa [Hpv.out] at this
        have hsp6 : ∀ s' b', rnd1 C R t s6 = some (s', b') → Ss C R s' ∧ (b' = false → 0 ≤ (leastS s'.1 C R t).1 ∧ mu3 s'.1 C R t < mu3 s.1 C R t) := by have := Hspec.out; rwa [Hpv.out] at this
        have hdn6 : ∀ s', rnd1 C R t s6 = some (s', true) → sA C R t s = some s' := by have := Hdone.out; rwa [Hpv.out] at this
        have hst6 : ∀ s', rnd1 C R t s6 = some (s', false) → sA C R t s = sA C R t s' := by have := Hstep.out; rwa [Hpv.out] at this
        have hno6 : rnd1 C R t s6 = none → sA C R t s = none := by have := Hnone.out; rwa [Hpv.out] at this
        have Hsp6 := Lib.hid hsp6; have Hdn6 := Lib.hid hdn6; have Hst6 := Lib.hid hst6; have Hno6 := Lib.hid hno6
        clear hsp6 hdn6 hst6 hno6 Hspec Hdone Hstep Hnone Hne Hpv
        have bA6 := bA.keep hK6 oA
        have bU6 := bU.keep hK6 oU
        have bV6 := bV.keep hK6 oV
        obtain ⟨⟨a0, a1, a2⟩, -⟩ := bA6.three
        obtain ⟨⟨b0, b1, b2⟩, -⟩ := bU6.three
        obtain ⟨⟨v0, v1, v2⟩, -⟩ := bV6.three
        have hltA := bA6.lt
        have hltU := bU6.lt
        have hltV := bV6.lt
        go_wp2_with fail
        refine (l13Round_c aa au av ca cu cv R C t s6 _ hT6 hs6 ht htC hne6 hR hC).mono ?_
        rintro e w8 ⟨b', s', rfl, hT8, hm8, hK68, hF⟩
        have hK8 := hK6.trans hK68
        clear a0 a1 a2 b0 b1 b2 v0 v1 v2 hltA hltU hltV bA6 bU6 bV6
        have bA8 := bA.keep hK8 oA
        have bU8 := bU.keep hK8 oU
        have bV8 := bV.keep hK8 oV
        have rA8 := hT8.oa.rdI (S := fun _ => True) (fun _ _ => trivial) (bl_rng hm8.na)
        have rU8 := hT8.ou.rdI (S := fun _ => True) (fun _ _ => trivial) (bl_rng hm8.nu)
        have rV8 := hT8.ov.rdI (S := fun _ => True) (fun _ _ => trivial) (bl_rng hm8.nv)
        obtain ⟨⟨a0, a1, a2⟩, -⟩ := bA8.three
        have hltA := bA8.lt
        go_wp2_with fail
        refine (l1Bads_c aa _ ca s'.1 _ rA8 (by omega)).mono ?_
        rintro e w9 ⟨rfl, hQ9⟩
        have hG9 := hQ9.grow
        clear a0 a1 a2 hltA
        obtain ⟨⟨b0, b1, b2⟩, -⟩ := (bU8.grow hG9).three
        have hltU := (bU8.grow hG9).lt
        rcases hF with hF | ⟨hF, hMk⟩
        ·obtain ⟨hs8, hmu8⟩ := Hsp6.out s' b' hF
         have Hdn := Lib.hid (fun h : b' = true => Hdn6.out s' (by rw [hF, h]))
         have Hst := Lib.hid (fun h : b' = false => Hst6.out s' (by rw [hF, h]))
         have Hmu8 := Lib.hid hmu8
         rw [hasBad_no hs8.na]
         clear hF hmu8 Hsp6 Hdn6 Hst6 Hno6
         go_wp2_with fail
         refine (l1Bads_c au _ cu s'.2.1 _ (rU8.grow hG9) (by omega)).mono ?_
         rintro e w10 ⟨rfl, hQ10⟩
         rw [hasBad_no hs8.nu]
         have hG10 := hG9.trans hQ10.grow
         clear b0 b1 b2 hltU
         obtain ⟨⟨v0, v1, v2⟩, -⟩ := (bV8.grow hG10).three
         have hltV := (bV8.grow hG10).lt
         go_wp2_with fail
         refine (l1Bads_c av _ cv s'.2.2 _ (rV8.grow hG10) (by omega)).mono ?_
         rintro e w11 ⟨rfl, hQ11⟩
         rw [hasBad_no hs8.nv]
         have hG11 := hG10.trans hQ11.grow
         clear v0 v1 v2 hltV
         have hT11 := hT8.grow hG11
         have Hmu11 := Lib.hid (rdL_own hT11.oa)
         go_wp2
         go_roundw
         case rel =>
          refine ⟨hK8.trans hG11.any, b', s', rfl, hT11, hs8, ?_⟩
          cases b' with
          | true => exact .inr ⟨rfl, by rw [← Hh.out, Hdn.out rfl]; rfl⟩
          | false => exact .inl ⟨rfl, by rw [sAll_unf ht htC, if_neg (by have := (Hmu8.out rfl).1; omega), ← Hst.out rfl]; exact Hh.out⟩
         case measure =>
          show oneIf (.bool b') * (mu3 (rdL w11 aa (R * C)) C R t + 1) < oneIf (.bool false) * (mu3 (rdL wr aa (R * C)) C R t + 1)
          rw [Hmu11.out, Hmu.out]
          cases b' with
          | true => simp [oneIf]
          | false =>
           have := (Hmu8.out rfl).2
           simp only [oneIf, Nat.one_mul]; omega
        ·have HN := Lib.hid (show res = none by rw [← Hh.out, Hno6.out hF]; rfl)
         clear Hsp6 Hdn6 Hst6 Hno6 hF
         cases hba : hasBad s'.1 with
         | true =>
          have hTo := hT8.grow hG9
          have hKo := hK8.trans hG9.any
          go_wp2
          go_ret
          exact ⟨false, s', rfl, hTo, (hG2.any.trans hKo), (fun h => by cases h), fun _ => HN.out⟩
         | false =>
          have hm2 : badN ∈ s'.2.1 ∨ badN ∈ s'.2.2 := hMk.resolve_left fun h => by rw [hasBad_iff.2 h] at hba; cases hba
          go_wp2_with fail
          refine (l1Bads_c au _ cu s'.2.1 _ (rU8.grow hG9) (by omega)).mono ?_
          rintro e w10 ⟨rfl, hQ10⟩
          have hG10 := hG9.trans hQ10.grow
          clear b0 b1 b2 hltU
          obtain ⟨⟨v0, v1, v2⟩, -⟩ := (bV8.grow hG10).three
          have hltV := (bV8.grow hG10).lt
          cases hbu : hasBad s'.2.1 with
          | true =>
           have hTo := hT8.grow hG10
           have hKo := hK8.trans hG10.any
           go_wp2
           go_ret
           exact ⟨false, s', rfl, hTo, (hG2.any.trans hKo), (fun h => by cases h), fun _ => HN.out⟩
          | false =>
           have hbv : hasBad s'.2.2 = true := hasBad_iff.2 (hm2.resolve_left fun h => by rw [hasBad_iff.2 h] at hbu; cases hbu)
           go_wp2_with fail
           refine (l1Bads_c av _ cv s'.2.2 _ (rV8.grow hG10) (by omega)).mono ?_
           rintro e w11 ⟨rfl, hQ11⟩
           rw [hbv]
           have hTo := hT8.grow (hG10.trans hQ11.grow)
           have hKo := hK8.trans (hG10.trans hQ11.grow).any
           go_wp2
           go_ret
           exact ⟨false, s', rfl, hTo, (hG2.any.trans hKo), (fun h => by cases h), fun _ => HN.out⟩
    ·have Hh := Lib.hid hh; clear hh
     go_wp2_with fail
     refine (l12Cell_c aa _ ca C t t (R : Int) s.1 _ hrA (place_lt htC ht) (by omega) (by omega) (by omega)).mono ?_
     rintro e w3 ⟨rfl, hG3⟩
     have hK3 := hK.trans hG3.any
     have hT3 := hT.grow hG3
     clear a0 a1 a2 hltA bAr
     by_cases hneg : cell s.1 C t t < 0
     ·have Hn := Lib.hid (show sNeg C R t s = rNeg3 C R t s by unfold sNeg; rw [if_pos hneg])
      have bA3 := bA.keep hK3 oA
      have bU3 := bU.keep hK3 oU
      obtain ⟨⟨a0, a1, a2⟩, -⟩ := bA3.three
      obtain ⟨⟨b0, b1, b2⟩, -⟩ := bU3.three
      have hltA := bA3.lt
      have hltU := bU3.lt
      have q1 : decide (cell s.1 C t t < 0) = true := decide_eq_true hneg
      go_wp2_with fail
      refine (thrNeg_c aa au av ca cu cv R C t s _ hT3 hs ht hR hC).mono ?_
      rintro e w5 ⟨rfl, hT5, hK35⟩
      have hs5 := rNeg3_ss (t := t) hs
      clear a0 a1 a2 b0 b1 b2 hltA hltU
      go_wp2
      go_roundw
      case rel => exact ⟨hK3.trans hK35, t + 1, _, by omega, by go_num, hT5, hs5, by rw [← Hn.out]; exact Hh.out⟩
      case measure => simp [intOf]; omega
     ·have Hn := Lib.hid (show sNeg C R t s = s by unfold sNeg; rw [if_neg hneg])
      have q1 : decide (cell s.1 C t t < 0) = false := decide_eq_false hneg
      go_wp2
      go_roundw
      case rel => exact ⟨hK3, t + 1, s, by omega, by go_num, hT3, hs, by rw [← Hh.out, Hn.out]⟩
      case measure => simp [intOf]; omega
  ·have htM : ¬ t < M := by have := HM.out; omega
   have He := Lib.hid (show some s = res by rw [← Hh.out, sAll_end hlt])
   clear hlt
   go_wp2_with (refine wpList_min (o := ⟨some 16, _, _, _, _, _⟩) rfl rfl rfl rfl hmin ?_)
   go_ret
   exact ⟨true, s, rfl, hT, hG2.any.trans hK, (fun _ => He.out.symm), fun h => by cases h⟩
end Go.Proofs.YtjepiemflpjjhaaGreat

namespace Go.Proofs.YtjepiemflpjjhaaGreat
open Go.RowKit
theorem ret_cells3_tmp {P : Program} {fn : Func} {R : Ending → World → Prop} {a : Act} {w : World} {ty : TypeId} {cs ds es : Array Value} {p q r u : Tmp} {g g' g'' : Nat} {t : TypeId} (hT : StT P ty cs.size) (hT' : StT P ty ds.size) (hT'' : StT P ty es.size) (h : fn.results = #[.cell p ty, .cell q ty, .cell r ty, .tmp u]) (hd : a.defers = []) (hp : a.tmps.getD p undef = .pointer (some ⟨g, 0, none⟩)) (hq : a.tmps.getD q undef = .pointer (some ⟨g', 0, none⟩)) (hr : a.tmps.getD r undef = .pointer (some ⟨g'', 0, none⟩))
  (hb : Blk w g cs t) (hb' : Blk w g' ds t) (hb'' : Blk w g'' es t) (hR : R (.returned (.tuple #[.agg cs, .agg ds, .agg es, a.tmps.getD u undef])) w) : bodyPost P fn R .ret a w := by
 have hp' : a.tmps[p]?.getD undef = .pointer (some ⟨g, 0, none⟩) := by simpa using hp
 have hq' : a.tmps[q]?.getD undef = .pointer (some ⟨g', 0, none⟩) := by simpa using hq
 have hr' : a.tmps[r]?.getD undef = .pointer (some ⟨g'', 0, none⟩) := by simpa using hr
 refine bodyPost_ret (v := .tuple #[.agg cs, .agg ds, .agg es, a.tmps.getD u undef]) ?_ hd hR
 simp [results, h, hp', hq', hr', asAddr, hT.load hb, hT'.load hb', hT''.load hb'']
abbrev zM : Value := .agg #[.int .i64 0, .int .i64 0, .slice none 0 0]
theorem sSmith_no {S : Nat → Prop} {m : Mat} {w : World} {a : Option Addr} {n c : Nat} {mr mc : Int} (hVM : VM w S (.agg #[.int .i64 mr, .int .i64 mc, .slice a n c]) m) (hb : bdM m ≤ 1048576) (hB : isMatB m = false) :
  Calls Tryz.prog 86 #[.agg #[.int .i64 mr, .int .i64 mc, .slice a n c]] w fun e w' => e = .returned (.tuple #[zM, zM, zM, .bool false]) ∧ Grow w w' := by
 obtain ⟨w3, hw3⟩ : ∃ w3, w3 = (((w.alloc (.cells #[.int .i64 mr, .int .i64 mc, .slice a n c] 40)).alloc (.cells #[.int .i64 0, .int .i64 0, .slice none 0 0] 40)).alloc (.cells #[.int .i64 0, .int .i64 0, .slice none 0 0] 40)).alloc (.cells #[.int .i64 0, .int .i64 0, .slice none 0 0] 40) := ⟨_, rfl⟩
 have hG : Grow w w3 := by rw [hw3]; exact ((((Grow.refl w).alloc _ _).alloc _ _).alloc _ _).alloc _ _
 have bM : Blk w3 w.heap.size #[.int .i64 mr, .int .i64 mc, .slice a n c] 40 := by rw [hw3]; exact (((Blk.new w _ _).alloc _).alloc _).alloc _
 have bR1 : Blk w3 (w.heap.size + 1) #[.int .i64 0, .int .i64 0, .slice none 0 0] 40 := by rw [hw3]; exact ((Blk.newAt _ _ _ (by simp)).alloc _).alloc _
 have bR2 : Blk w3 (w.heap.size + 1 + 1) #[.int .i64 0, .int .i64 0, .slice none 0 0] 40 := by rw [hw3]; exact (Blk.newAt _ _ _ (by simp)).alloc _
 have bR3 : Blk w3 (w.heap.size + 1 + 1 + 1) #[.int .i64 0, .int .i64 0, .slice none 0 0] 40 := by rw [hw3]; exact Blk.newAt _ _ _ (by simp)
 have Hw3 := Lib.hid hw3; clear hw3
 have HB := Lib.hid hB; clear hB
 go_enter Tryz.func86, Tryz.ntmps86
 go_wp2_with fail
 rw [← Hw3.out]
 refine (sIsMatrix_c (hVM.grow hG) (by omega)).mono ?_
 rintro e w4 ⟨rfl, hG4⟩
 rw [HB.out]
 replace bR1 := bR1.grow hG4
 replace bR2 := bR2.grow hG4
 replace bR3 := bR3.grow hG4
 replace hG := hG.trans hG4
 have h1 : w.heap.size ≤ w.heap.size + 1 := by omega
 have h2 : w.heap.size ≤ w.heap.size + 1 + 1 := by omega
 have h3 : w.heap.size ≤ w.heap.size + 1 + 1 + 1 := by omega
 have n12 : w.heap.size + 1 ≠ w.heap.size + 1 + 1 := by omega
 have n13 : w.heap.size + 1 ≠ w.heap.size + 1 + 1 + 1 := by omega
 have n23 : w.heap.size + 1 + 1 ≠ w.heap.size + 1 + 1 + 1 := by omega
 obtain ⟨⟨a0, a1, a2⟩, f0, f1, f2⟩ := bR1.three
 obtain ⟨⟨b0, b1, b2⟩, g0, g1, g2⟩ := bR2.three
 obtain ⟨⟨c0, c1, c2⟩, k0, k1, k2⟩ := bR3.three
 go_wp2
 refine ret_cells3_tmp T_mat T_mat T_mat rfl rfl rfl rfl rfl
  (((((((((bR1.set 0 _).set 1 _).set 2 _).other n12 _).other n12 _).other n12 _).other n13 _).other n13 _).other n13 _)
  (((((((((bR2.other n12.symm _).other n12.symm _).other n12.symm _).set 0 _).set 1 _).set 2 _).other n23 _).other n23 _).other n23 _)
  (((((((((bR3.other n13.symm _).other n13.symm _).other n13.symm _).other n23.symm _).other n23.symm _).other n23.symm _).set 0 _).set 1 _).set 2 _) ?_
 exact ⟨rfl, ((((((((hG.setCell h1 _).setCell h1 _).setCell h1 _).setCell h2 _).setCell h2 _).setCell h2 _).setCell h3 _).setCell h3 _).setCell h3 _⟩
theorem sSmith_yes {S : Nat → Prop} {w : World} {a : Option Addr} {n c R C : Nat} {cells : List Int} (h : RdI w S a n c cells) (hl : cells.length = R * C) (hnum : NumL cells) (hR : R ≤ 24) (hC : C ≤ 24) :
  Calls Tryz.prog 86 #[.agg #[.int .i64 R, .int .i64 C, .slice a n c]] w fun e w' => Grow w w' ∧ ((smith cells R C = none ∧ e = .returned (.tuple #[zM, zM, zM, .bool false])) ∨
   ∃ s aa ca ub un uc vb vn vc, smith cells R C = some s ∧ e = .returned (.tuple #[.agg #[.int .i64 R, .int .i64 C, .slice aa (R * C) ca], .agg #[.int .i64 R, .int .i64 R, .slice ub un uc], .agg #[.int .i64 C, .int .i64 C, .slice vb vn vc], .bool true]) ∧ RdI w' (fun q => w.heap.size ≤ q) aa (R * C) ca s.1) := by
 have hRC : R * C ≤ 24 * 24 := Nat.mul_le_mul hR hC
 have hRR : R * R ≤ 24 * 24 := Nat.mul_le_mul hR hR
 have hCC : C * C ≤ 24 * 24 := Nat.mul_le_mul hC hC
 have hB := isMatB_ok hR hC hl hnum
 obtain ⟨mr, hmr⟩ : ∃ mr : Int, mr = R := ⟨_, rfl⟩
 obtain ⟨mc, hmc⟩ : ∃ mc : Int, mc = C := ⟨_, rfl⟩
 have hVM : VM w S (.agg #[.int .i64 R, .int .i64 C, .slice a n c]) { rows := (R : Int), cols := (C : Int), cells := cells } := ⟨a, n, c, rfl, h, by show I64 (R : Int); unfold I64; omega, by show I64 (C : Int); unfold I64; omega⟩
 rw [← hmr, ← hmc] at hVM hB ⊢
 obtain ⟨w3, hw3⟩ : ∃ w3, w3 = (((w.alloc (.cells #[.int .i64 mr, .int .i64 mc, .slice a n c] 40)).alloc (.cells #[.int .i64 0, .int .i64 0, .slice none 0 0] 40)).alloc (.cells #[.int .i64 0, .int .i64 0, .slice none 0 0] 40)).alloc (.cells #[.int .i64 0, .int .i64 0, .slice none 0 0] 40) := ⟨_, rfl⟩
 have hG : Grow w w3 := by rw [hw3]; exact ((((Grow.refl w).alloc _ _).alloc _ _).alloc _ _).alloc _ _
 have bM : Blk w3 w.heap.size #[.int .i64 mr, .int .i64 mc, .slice a n c] 40 := by rw [hw3]; exact (((Blk.new w _ _).alloc _).alloc _).alloc _
 have bR1 : Blk w3 (w.heap.size + 1) #[.int .i64 0, .int .i64 0, .slice none 0 0] 40 := by rw [hw3]; exact ((Blk.newAt _ _ _ (by simp)).alloc _).alloc _
 have bR2 : Blk w3 (w.heap.size + 1 + 1) #[.int .i64 0, .int .i64 0, .slice none 0 0] 40 := by rw [hw3]; exact (Blk.newAt _ _ _ (by simp)).alloc _
 have bR3 : Blk w3 (w.heap.size + 1 + 1 + 1) #[.int .i64 0, .int .i64 0, .slice none 0 0] 40 := by rw [hw3]; exact Blk.newAt _ _ _ (by simp)
 have Hw3 := Lib.hid hw3; clear hw3
 subst hmr
 subst hmc
 have HB := Lib.hid hB; clear hB
 go_enter Tryz.func86, Tryz.ntmps86
 go_wp2_with fail
 rw [← Hw3.out]
 refine (sIsMatrix_c (hVM.grow hG) (by unfold bdM; simp; omega)).mono ?_
 rintro e w4 ⟨rfl, hG4⟩
 rw [HB.out]
 have bM4 := bM.grow hG4
 obtain ⟨⟨a0, a1, a2⟩, -⟩ := bM4.three
 go_wp2_with fail
 refine (l3Copy_c ((hVM.grow hG).grow hG4) (by unfold bdM; simp; omega)).mono ?_
 rintro e w5 ⟨va, rfl, hA, hG5⟩
 obtain ⟨aa, na, ca, rfl, oA, rA, fA, iA1, iA2⟩ := hA
 replace oA : Own w5 3 1 aa na ca (ints cells) := oA
 have hna : na = R * C := by have := oA.len; simp at this; omega
 subst hna
 clear iA1 iA2 a0 a1 a2
 have bX := Blk.new w5 #[.int .i64 (R : Int), .int .i64 (C : Int), .slice aa (R * C) ca] 40
 have hGX := (Grow.refl w5).alloc #[.int .i64 (R : Int), .int .i64 (C : Int), .slice aa (R * C) ca] 40
 have hG45 := (hG4.trans hG5).trans hGX
 have oA5 := oA.grow hGX
 have bM5 := bM.grow hG45
 obtain ⟨⟨a0, a1, a2⟩, -⟩ := bM5.three
 have hlt5 : w.heap.size < w5.heap.size := (bM4.grow hG5).lt
 have hlR : w.heap.size + 1 + 1 + 1 < w4.heap.size := (bR3.grow hG4).lt
 have hs45 := hG5.size
 have fA' : ∀ q, blk aa = some q → w.heap.size + 1 + 1 + 1 < q := fun q hq => by have := (fA q hq).1; omega
 have naX : blk aa ≠ some w5.heap.size := fun e => by have := oA.lt e; omega
 clear oA bM4 bM fA
 go_wp2_with fail
 refine (sIdentity_c R _ hR).mono ?_
 rintro e w6 ⟨au, rfl, oU, fU, hG6⟩
 have oA6 := oA5.grow hG6
 have bX6 := bX.grow hG6
 have hs6 := hG6.size
 have hs6' : w5.heap.size < w6.heap.size := by simp at hs6; omega
 have fU' : ∀ q, blk au = some q → w5.heap.size < q := fun q hq => by have := fU q hq; simp at this; omega
 have hGU := (Grow.refl w6).alloc #[.int .i64 (R : Int), .int .i64 (R : Int), .slice au (R * R) (R * R)] 40
 have bU := Blk.new w6 #[.int .i64 (R : Int), .int .i64 (R : Int), .slice au (R * R) (R * R)] 40
 have hne : ∀ q, blk aa = some q → blk au ≠ some q := fun q hq e => by have := oA5.lt hq; have := fU q e; omega
 have nuX : blk au ≠ some w5.heap.size := fun e => by have := fU' _ e; omega
 have naU : blk aa ≠ some w6.heap.size := fun e => by have := oA6.lt e; omega
 have nuU : blk au ≠ some w6.heap.size := fun e => by have := oU.lt e; omega
 have bM6 := (bM5.grow hG6).grow hGU
 clear a0 a1 a2
 obtain ⟨⟨a0, a1, a2⟩, -⟩ := bM6.three
 have hltM6 := (bM5.grow hG6).lt
 have oA7 := oA6.grow hGU
 have oU7 := oU.grow hGU
 go_wp2_with fail
 refine (sIdentity_c C _ hC).mono ?_
 rintro e w7 ⟨av, rfl, oV, fV, hG7⟩
 have hs7 := hG7.size
 have hs7' : w6.heap.size < w7.heap.size := by simp at hs7; omega
 have fV' : ∀ q, blk av = some q → w6.heap.size < q := fun q hq => by have := fV q hq; simp at this; omega
 have hGV := (Grow.refl w7).alloc #[.int .i64 (C : Int), .int .i64 (C : Int), .slice av (C * C) (C * C)] 40
 have bV := Blk.new w7 #[.int .i64 (C : Int), .int .i64 (C : Int), .slice av (C * C) (C * C)] 40
 have hnAV : ∀ q, blk aa = some q → blk av ≠ some q := fun q hq e => by have := oA7.lt hq; have := fV q e; omega
 have hnUV : ∀ q, blk au = some q → blk av ≠ some q := fun q hq e => by have := oU7.lt hq; have := fV q e; omega
 have hThr : Thr (w7.alloc (.cells #[.int .i64 (C : Int), .int .i64 (C : Int), .slice av (C * C) (C * C)] 40)) aa au av (R * C) (R * R) (C * C) ca (R * R) (C * C) (cells, idL R, idL C) := ⟨(oA7.grow hG7).grow hGV, (oU7.grow hG7).grow hGV, oV.grow hGV, hne, hnAV, hnUV⟩
 have hs0 : Ss C R (cells, idL R, idL C) := ⟨hl, idL_len R, idL_len C, hnum, idL_num R, idL_num C⟩
 have bX8 := ((bX6.grow hGU).grow hG7).grow hGV
 have bU8 := (bU.grow hG7).grow hGV
 clear a0 a1 a2
 obtain ⟨⟨a0, a1, a2⟩, -⟩ := bX8.three
 obtain ⟨⟨b0, b1, b2⟩, -⟩ := bU8.three
 obtain ⟨⟨v0, v1, v2⟩, -⟩ := bV.three
 have nvX : blk av ≠ some w5.heap.size := fun e => by have := fV' _ e; omega
 have nvU : blk av ≠ some w6.heap.size := fun e => by have := fV' _ e; omega
 have naV : blk aa ≠ some w7.heap.size := fun e => by have := (oA7.grow hG7).lt e; omega
 have nuV : blk au ≠ some w7.heap.size := fun e => by have := (oU7.grow hG7).lt e; omega
 have nvV : blk av ≠ some w7.heap.size := fun e => by have := oV.lt e; omega
 have hltX8 := ((bX6.grow hGU).grow hG7).lt
 have hltU8 := (bU.grow hG7).lt
 clear oA5 oA6 oU fU hGX bX bX6 oV fV oA7 oU7 bM5 bM6 hltM6
 go_wp2_with fail
 refine (l13Smith_c aa au av ca (R * R) (C * C) R C (cells, idL R, idL C) _ hThr hs0 hR hC).mono ?_
 rintro e w9 ⟨b, s', rfl, hT9, hK9, hyes, hno⟩
 have hGw := (((((hG.trans hG45).trans hG6).trans hGU).trans hG7).trans hGV)
 have hoff : ∀ q, q ≤ w.heap.size + 1 + 1 + 1 → Off aa au av q := fun q hq => ⟨fun e => by have := fA' q e; omega, fun e => by have := fU' q e; omega, fun e => by have := fV' q e; omega⟩
 have hG9 : Grow w w9 := hGw.keep hK9 (fun q hq => hoff q (by omega))
 have hGt := (((hG45.trans hG6).trans hGU).trans hG7).trans hGV
 replace bR1 := (bR1.grow hGt).keep hK9 (hoff _ (by omega))
 replace bR2 := (bR2.grow hGt).keep hK9 (hoff _ (by omega))
 replace bR3 := (bR3.grow hGt).keep hK9 (hoff _ (by omega))
 have bX9 := bX8.keep hK9 ⟨naX, nuX, nvX⟩
 have bU9 := bU8.keep hK9 ⟨naU, nuU, nvU⟩
 have bV9 := bV.keep hK9 ⟨naV, nuV, nvV⟩
 clear hG hThr hs0 hGU bU hG45 hG6 hK9 hGw a0 a1 a2 b0 b1 b2 v0 v1 v2 bX8 bU8 bV hGt hltX8 hltU8 hG7 hGV
 cases b with
 | false =>
  have Hn := Lib.hid (hno rfl)
  clear hno hyes
  have hG := hG9
  have h1 : w.heap.size ≤ w.heap.size + 1 := by omega
  have h2 : w.heap.size ≤ w.heap.size + 1 + 1 := by omega
  have h3 : w.heap.size ≤ w.heap.size + 1 + 1 + 1 := by omega
  have n12 : w.heap.size + 1 ≠ w.heap.size + 1 + 1 := by omega
  have n13 : w.heap.size + 1 ≠ w.heap.size + 1 + 1 + 1 := by omega
  have n23 : w.heap.size + 1 + 1 ≠ w.heap.size + 1 + 1 + 1 := by omega
  obtain ⟨⟨a0, a1, a2⟩, f0, f1, f2⟩ := bR1.three
  obtain ⟨⟨b0, b1, b2⟩, g0, g1, g2⟩ := bR2.three
  obtain ⟨⟨c0, c1, c2⟩, k0, k1, k2⟩ := bR3.three
  go_wp2
  refine ret_cells3_tmp T_mat T_mat T_mat rfl rfl rfl rfl rfl
   (((((((((bR1.set 0 _).set 1 _).set 2 _).other n12 _).other n12 _).other n12 _).other n13 _).other n13 _).other n13 _)
   (((((((((bR2.other n12.symm _).other n12.symm _).other n12.symm _).set 0 _).set 1 _).set 2 _).other n23 _).other n23 _).other n23 _)
   (((((((((bR3.other n13.symm _).other n13.symm _).other n13.symm _).other n23.symm _).other n23.symm _).other n23.symm _).set 0 _).set 1 _).set 2 _) ?_
  exact ⟨((((((((hG.setCell h1 _).setCell h1 _).setCell h1 _).setCell h2 _).setCell h2 _).setCell h2 _).setCell h3 _).setCell h3 _).setCell h3 _, .inl ⟨Hn.out, rfl⟩⟩
 | true =>
  have Hy := Lib.hid (hyes rfl)
  clear hyes hno
  have n5 : w5.heap.size ≠ w.heap.size + 1 ∧ w5.heap.size ≠ w.heap.size + 1 + 1 ∧ w5.heap.size ≠ w.heap.size + 1 + 1 + 1 := ⟨by omega, by omega, by omega⟩
  have n6 : w6.heap.size ≠ w.heap.size + 1 ∧ w6.heap.size ≠ w.heap.size + 1 + 1 ∧ w6.heap.size ≠ w.heap.size + 1 + 1 + 1 := ⟨by omega, by omega, by omega⟩
  have n7 : w7.heap.size ≠ w.heap.size + 1 ∧ w7.heap.size ≠ w.heap.size + 1 + 1 ∧ w7.heap.size ≠ w.heap.size + 1 + 1 + 1 := ⟨by omega, by omega, by omega⟩
  have n12 : w.heap.size + 1 ≠ w.heap.size + 1 + 1 := by omega
  have n13 : w.heap.size + 1 ≠ w.heap.size + 1 + 1 + 1 := by omega
  have n23 : w.heap.size + 1 + 1 ≠ w.heap.size + 1 + 1 + 1 := by omega
  go_wp2
  refine wp_region_segs (S := (Keep (fun q => q ≠ w.heap.size + 1 ∧ q ≠ w.heap.size + 1 + 1 ∧ q ≠ w.heap.size + 1 + 1 + 1) w9)) [([0, 1, 2], some 3), ([], some 4), ([], some 5), ([6], none)] P_mixed (by kernel_rfl) (fun _ _ _ _ _ h => h) (Keep.refl _ _).drew ?_
  show wpQuiet _ _ _ _ [_, _, _] _
  repeat (first | go_big_quiet_skip | (go_big_quiet_want; first | (apply quiet_load3 T_mat; rfl; rfl; exact (fun w' hG => bX9.keep hG n5); go_big_quiet_on; simp only [Act.put, List.setIfInBounds_toArray, List.set_cons_succ, List.set_cons_zero]) | (apply quiet_load3 T_mat; rfl; rfl; exact (fun w' hG => bU9.keep hG n6); go_big_quiet_on; simp only [Act.put, List.setIfInBounds_toArray, List.set_cons_succ, List.set_cons_zero]) | (apply quiet_load3 T_mat; rfl; rfl; exact (fun w' hG => bV9.keep hG n7); go_big_quiet_on; simp only [Act.put, List.setIfInBounds_toArray, List.set_cons_succ, List.set_cons_zero]) | (go_big_quiet_op; first | go_big_quiet_on | (refine ⟨_, (fun _ _ => rfl), ?_⟩; go_big_quiet_on))))
  refine wpQuiet_nil ?_
  obtain ⟨wa, hwa⟩ : ∃ wa, wa = w9.drew := ⟨_, rfl⟩
  rw [← hwa]
  have hGa : Grow w9 wa := by rw [hwa]; exact (Grow.refl _).drew
  clear hwa
  have rA := bR1.grow hGa
  have rB := bR2.grow hGa
  have rC := bR3.grow hGa
  refine seg_go rfl (fun K hK => ?_)
  obtain ⟨⟨a0, a1, a2⟩, f0, f1, f2⟩ := rA.three
  go_wp2_with fail
  have hK1 : Keep (fun q => q ≠ w.heap.size + 1) wa (((wa.setCell ⟨w.heap.size + 1, 0, none⟩ (.int .i64 (R : Int))).setCell ⟨w.heap.size + 1, 1, none⟩ (.int .i64 (C : Int))).setCell ⟨w.heap.size + 1, 2, none⟩ (.slice aa (R * C) ca)) :=
   (((Keep.refl _ wa).setCell (fun _ e => e rfl) _).setCell (fun _ e => e rfl) _).setCell (fun _ e => e rfl) _
  have rA1 := ((rA.set 0 (.int .i64 (R : Int))).set 1 (.int .i64 (C : Int))).set 2 (.slice aa (R * C) ca)
  have rB1 := rB.keep hK1 n12.symm
  have rC1 := rC.keep hK1 n13.symm
  refine hK _ _ (((hGa.mono fun _ _ _ => trivial).trans (hK1.mono fun q _ hb => hb.1))) ?_
  clear hK K
  generalize (((wa.setCell ⟨w.heap.size + 1, 0, none⟩ (.int .i64 (R : Int))).setCell ⟨w.heap.size + 1, 1, none⟩ (.int .i64 (C : Int))).setCell ⟨w.heap.size + 1, 2, none⟩ (.slice aa (R * C) ca)) = wb at *
  clear a0 a1 a2 f0 f1 f2 rA rB rC
  show wpQuiet _ _ _ _ [] _
  try (conv => arg 6; simp only [Act.put, List.setIfInBounds_toArray, List.set_cons_succ, List.set_cons_zero])
  refine wpQuiet_nil ?_
  refine seg_go rfl (fun K hK => ?_)
  obtain ⟨⟨b0, b1, b2⟩, g0, g1, g2⟩ := rB1.three
  go_wp2_with fail
  have hK2 : Keep (fun q => q ≠ w.heap.size + 1 + 1) wb (((wb.setCell ⟨w.heap.size + 1 + 1, 0, none⟩ (.int .i64 (R : Int))).setCell ⟨w.heap.size + 1 + 1, 1, none⟩ (.int .i64 (R : Int))).setCell ⟨w.heap.size + 1 + 1, 2, none⟩ (.slice au (R * R) (R * R))) :=
   (((Keep.refl _ wb).setCell (fun _ e => e rfl) _).setCell (fun _ e => e rfl) _).setCell (fun _ e => e rfl) _
  have rB2 := ((rB1.set 0 (.int .i64 (R : Int))).set 1 (.int .i64 (R : Int))).set 2 (.slice au (R * R) (R * R))
  have rA2 := rA1.keep hK2 n12
  have rC2 := rC1.keep hK2 n23.symm
  refine hK _ _ ((((hGa.mono fun _ _ _ => trivial).trans (hK1.mono fun q _ hb => hb.1)).trans (hK2.mono fun q _ hb => hb.2.1))) ?_
  clear hK K
  generalize (((wb.setCell ⟨w.heap.size + 1 + 1, 0, none⟩ (.int .i64 (R : Int))).setCell ⟨w.heap.size + 1 + 1, 1, none⟩ (.int .i64 (R : Int))).setCell ⟨w.heap.size + 1 + 1, 2, none⟩ (.slice au (R * R) (R * R))) = wc at *
  clear b0 b1 b2 g0 g1 g2 rA1 rB1 rC1
  show wpQuiet _ _ _ _ [] _
  try (conv => arg 6; simp only [Act.put, List.setIfInBounds_toArray, List.set_cons_succ, List.set_cons_zero])
  refine wpQuiet_nil ?_
  refine seg_go rfl (fun K hK => ?_)
  obtain ⟨⟨c0, c1, c2⟩, k0, k1, k2⟩ := rC2.three
  go_wp2_with fail
  have hK3 : Keep (fun q => q ≠ w.heap.size + 1 + 1 + 1) wc (((wc.setCell ⟨w.heap.size + 1 + 1 + 1, 0, none⟩ (.int .i64 (C : Int))).setCell ⟨w.heap.size + 1 + 1 + 1, 1, none⟩ (.int .i64 (C : Int))).setCell ⟨w.heap.size + 1 + 1 + 1, 2, none⟩ (.slice av (C * C) (C * C))) :=
   (((Keep.refl _ wc).setCell (fun _ e => e rfl) _).setCell (fun _ e => e rfl) _).setCell (fun _ e => e rfl) _
  have rC3 := ((rC2.set 0 (.int .i64 (C : Int))).set 1 (.int .i64 (C : Int))).set 2 (.slice av (C * C) (C * C))
  have rA3 := rA2.keep hK3 n13
  have rB3 := rB2.keep hK3 n23
  refine hK _ _ (((((hGa.mono fun _ _ _ => trivial).trans (hK1.mono fun q _ hb => hb.1)).trans (hK2.mono fun q _ hb => hb.2.1)).trans (hK3.mono fun q _ hb => hb.2.2))) ?_
  clear hK K
  show wpQuiet _ _ _ _ [_] _
  try (conv => arg 6; simp only [Act.put, List.setIfInBounds_toArray, List.set_cons_succ, List.set_cons_zero])
  repeat (first | go_big_quiet_skip | (go_big_quiet_want; first | (apply quiet_load3 T_mat; rfl; rfl; exact (fun w' hG => bX9.keep hG n5); go_big_quiet_on; simp only [Act.put, List.setIfInBounds_toArray, List.set_cons_succ, List.set_cons_zero]) | (apply quiet_load3 T_mat; rfl; rfl; exact (fun w' hG => bU9.keep hG n6); go_big_quiet_on; simp only [Act.put, List.setIfInBounds_toArray, List.set_cons_succ, List.set_cons_zero]) | (apply quiet_load3 T_mat; rfl; rfl; exact (fun w' hG => bV9.keep hG n7); go_big_quiet_on; simp only [Act.put, List.setIfInBounds_toArray, List.set_cons_succ, List.set_cons_zero]) | (go_big_quiet_op; first | go_big_quiet_on | (refine ⟨_, (fun _ _ => rfl), ?_⟩; go_big_quiet_on))))
  refine wpQuiet_nil ?_
  refine wpSegs_nil ?_
  have hGe := (((hG9.trans hGa).keep hK1 (fun q hq => by omega)).keep hK2 (fun q hq => by omega)).keep hK3 (fun q hq => by omega)
  have hHs := smith_spec hl hnum Hy.out
  have hoA := (((hT9.oa.grow hGa).keep hK1 (fun q hq _ e => by have := fA' q hq; omega)).keep hK2 (fun q hq _ e => by have := fA' q hq; omega)).keep hK3 (fun q hq _ e => by have := fA' q hq; omega)
  go_wp2
  exact ret_cells3_tmp T_mat T_mat T_mat rfl rfl rfl rfl rfl rA3 rB3 rC3 ⟨hGe, .inr ⟨s', aa, ca, _, _, _, _, _, _, Hy.out, rfl, hoA.rdI (fun q hq => by have := fA' q hq; omega) (num_rng hHs.na)⟩⟩
end Go.Proofs.YtjepiemflpjjhaaGreat

namespace Go.Proofs.YtjepiemflpjjhaaGreat
open Go.RowKit
def facP (m : List Int) (C n : Nat) : List Int := ((List.range n).map fun i => cell m C i i).filter fun x => x != 0
theorem facP_yes {m : List Int} {C n : Nat} (h : cell m C n n ≠ 0) : facP m C (n + 1) = facP m C n ++ [cell m C n n] := by
 unfold facP; rw [List.range_succ, List.map_append, List.filter_append]; simp [h]
theorem facP_no {m : List Int} {C n : Nat} (h : cell m C n n = 0) : facP m C (n + 1) = facP m C n := by
 unfold facP; rw [List.range_succ, List.map_append, List.filter_append]; simp [h]
theorem facP_len (m : List Int) (C n : Nat) : (facP m C n).length ≤ n := by
 unfold facP
 exact Nat.le_trans (List.length_filter_le _ _) (by simp)
theorem facP_rng {m : List Int} {C n : Nat} (h : NumL m) : NumL (facP m C n) := fun x hx => by
 have := (List.mem_filter.1 hx).1
 obtain ⟨i, _, rfl⟩ := List.mem_map.1 this
 exact cell_num h C i i
def facR (m : Mat) : Option (List Int) := if isMatB m = true then (smith m.cells m.rows.toNat m.cols.toNat).map fun s => facP s.1 m.cols.toNat (min m.rows.toNat m.cols.toNat) else none
def facOk (m : Mat) : Bool := (facR m).isSome
def facB (m : Mat) : List Int := (facR m).getD []
theorem fac_none {m : Mat} (h : facR m = none) : facOk m = false ∧ facB m = [] := by unfold facOk facB; rw [h]; exact ⟨rfl, rfl⟩
theorem fac_some {m : Mat} {x : List Int} (h : facR m = some x) : facOk m = true ∧ facB m = x := by unfold facOk facB; rw [h]; exact ⟨rfl, rfl⟩
theorem facR_no {m : Mat} (h : isMatB m = false) : facR m = none := by unfold facR; rw [h]; rfl
theorem facR_mat {R C : Nat} {cells : List Int} (hB : isMatB { rows := (R : Int), cols := (C : Int), cells := cells } = true) : facR { rows := (R : Int), cols := (C : Int), cells := cells } = (smith cells R C).map fun s => facP s.1 C (min R C) := by
 unfold facR; rw [hB]; rfl
structure FacPk (w : World) (S : Nat → Prop) (m : Mat) (D E : Nat) (aa : Option Addr) (na ca : Nat) (L : List Int) (b : Bool) : Prop where
 rd : RdI w S aa na ca L
 len : L.length = D * E
 num : NumL L
 hD : D ≤ 24
 hE : E ≤ 24
 ok : facOk m = b
 fac : facB m = facP L E (min D E)
theorem FacPk.zero {w : World} {S : Nat → Prop} {m : Mat} (h : facR m = none) : FacPk w S m 0 0 none 0 0 [] false :=
 ⟨RdI.nilw w, by simp, (fun x hx => by cases hx), by omega, by omega, (fac_none h).1, by rw [(fac_none h).2]; rfl⟩
theorem sSmith_pk {S : Nat → Prop} {v : Value} {m : Mat} {w : World} (h : VM w S v m) (hb : bdM m ≤ 1048576) :
  Calls Tryz.prog 86 #[v] w fun e w' => Grow w w' ∧ ∃ D E aa na ca L b ub un uk vb vn vk ur uc vr vc, FacPk w' (fun _ => True) m D E aa na ca L b ∧ e = .returned (.tuple #[.agg #[.int .i64 ((D : Nat) : Int), .int .i64 ((E : Nat) : Int), .slice aa na ca], .agg #[.int .i64 ur, .int .i64 uc, .slice ub un uk], .agg #[.int .i64 vr, .int .i64 vc, .slice vb vn vk], .bool b]) := by
 have hVM := h
 obtain ⟨a, n, c, rfl, h, hr, hc⟩ := h
 cases hB : isMatB m with
 | false =>
  refine (sSmith_no hVM hb hB).mono ?_
  rintro e w' ⟨rfl, hG⟩
  exact ⟨hG, 0, 0, none, 0, 0, [], false, _, _, _, _, _, _, _, _, _, _, FacPk.zero (facR_no hB), rfl⟩
 | true =>
  obtain ⟨R, C, hmr, hmc, hR, hC, hl, hnum⟩ := isMatB_shape hB
  obtain ⟨mr, mc, cells⟩ := m
  simp only at hmr hmc hl hnum h
  subst hmr
  subst hmc
  refine (sSmith_yes h hl hnum hR hC).mono ?_
  rintro e w' ⟨hG, (⟨hn, rfl⟩ | ⟨s, aa, ca, ub, un, uk, vb, vn, vk, hs, rfl, rA⟩)⟩
  ·exact ⟨hG, 0, 0, none, 0, 0, [], false, _, _, _, _, _, _, _, _, _, _, FacPk.zero (by rw [facR_mat hB, hn]; rfl), rfl⟩
  ·have hS := smith_spec hl hnum hs
   have hf := fac_some (m := { rows := (R : Int), cols := (C : Int), cells := cells }) (by rw [facR_mat hB, hs]; rfl)
   exact ⟨hG, R, C, aa, R * C, ca, s.1, true, ub, un, uk, vb, vn, vk, _, _, _, _, ⟨rA.weak (fun _ _ _ => trivial), hS.la, hS.na, hR, hC, hf.1, hf.2⟩, rfl⟩
theorem sFactors_c {S : Nat → Prop} {v : Value} {m : Mat} {w : World} (h : VM w S v m) (hb : bdM m ≤ 1048576) :
  Calls Tryz.prog 47 #[v] w fun e w' => ∃ x, e = .returned (.tuple #[x, .bool (facOk m)]) ∧ OI w' (New w w') x (facB m) ∧ Grow w w' := by
 have hVM := h
 obtain ⟨a, n, c, rfl, h, hr, hc⟩ := h
 have hG1 := (Grow.refl w).alloc #[.int .i64 m.rows, .int .i64 m.cols, .slice a n c] 40
 go_enter Tryz.func47, Tryz.ntmps47
 go_wp2_with fail
 refine (sSmith_pk (hVM.grow hG1) hb).mono ?_
 rintro e w2 ⟨hG2, D, E, aa, na, ca, L, b, ub, un, uk, vb, vn, vk, ur, uc, vr, vc, hP, rfl⟩
 have hok := hP.ok
 have hfac := hP.fac
 have hD := hP.hD
 have hE := hP.hE
 have hG12 := hG1.trans hG2
 obtain ⟨w3, hw3⟩ : ∃ w3, w3 = (((w2.alloc (.cells #[.int .i64 ((D : Nat) : Int), .int .i64 ((E : Nat) : Int), .slice aa na ca] 40)).alloc (.cells #[.int .i64 ur, .int .i64 uc, .slice ub un uk] 40)).alloc (.cells #[.int .i64 vr, .int .i64 vc, .slice vb vn vk] 40)).alloc (.cells #[] 3) := ⟨_, rfl⟩
 have hG3 : Grow w2 w3 := by rw [hw3]; exact ((((Grow.refl w2).alloc _ _).alloc _ _).alloc _ _).alloc _ _
 have bD : Blk w3 w2.heap.size #[.int .i64 ((D : Nat) : Int), .int .i64 ((E : Nat) : Int), .slice aa na ca] 40 := by rw [hw3]; exact (((Blk.new w2 _ _).alloc _).alloc _).alloc _
 have hO : Own w3 3 1 (some ⟨w2.heap.size + 1 + 1 + 1, 0, none⟩) 0 0 [] := by rw [hw3]; exact Own.freshAt (cs := #[]) (by simp) (by unfold maxLen; omega) rfl
 have rd := (hP.rd.weak (T := fun g => g < w2.heap.size) (fun g hg _ => hg)).grow hG3
 have hs12 := hG12.size
 have hs3 := hG3.size
 have hle3 : w2.heap.size + 1 + 1 + 1 < w3.heap.size := by rw [hw3]; simp
 have hnal := rd.len
 have Hlen := Lib.hid (show D * E = na by rw [← hnal, hP.len])
 have hnum := hP.num
 have Hok := Lib.hid hok; have Hfac := Lib.hid hfac
 have Hw3 := Lib.hid hw3
 obtain ⟨M, hM⟩ : ∃ M, M = min D E := ⟨_, rfl⟩
 have HM := Lib.hid hM
 have hmin : (if (E : Int) < (D : Int) then (E : Int) else (D : Int)) = (M : Int) := by split <;> omega
 have hM24 : M ≤ 24 := by omega
 clear hw3 hP hok hfac hM hnal
 go_wp2
 rw [← Hw3.out]
 go_loopw [8, 9] (fun ov iv wr => Keep (fun g => g < w2.heap.size ∨ g = w2.heap.size) w3 wr ∧ ∃ (i n1 c1 : Nat) (a1 : Option Addr), i ≤ M ∧ iv = .int .i64 i ∧ ov = .slice a1 n1 c1 ∧ n1 ≤ i ∧ Own wr 3 1 a1 n1 c1 (ints (facP L E i)) ∧ (∀ g, blk a1 = some g → w2.heap.size < g)) (fun _ iv _ => M - (intOf iv).toNat)
 case atStart => exact ⟨Keep.refl _ _, 0, 0, 0, _, Nat.zero_le _, rfl, rfl, Nat.le_refl _, hO, fun g hg => by simp at hg; omega⟩
 case round =>
  clear hO
  obtain ⟨hK, i, n1, c1, a1, hi, rfl, rfl, hn1, hO, hlo⟩ := hrel
  have bDr := bD.keep hK (.inr rfl)
  have rdr := rd.keep hK (fun g _ hg => .inl hg)
  obtain ⟨⟨d0, d1, d2⟩, -⟩ := bDr.three
  have hltD := bDr.lt
  by_cases hiM : i < M
  ·have hiD : i < D := by have := HM.out; omega
   have hiE : i < E := by have := HM.out; omega
   have hni : i * E + i < na := by rw [← Hlen.out]; exact place_lt hiE hiD
   go_wp2_with (first | (refine wpList_min (o := ⟨some 23, _, _, _, _, _⟩) rfl rfl rfl rfl hmin ?_) | fail)
   refine (l12Cell_c aa na ca E i i (D : Int) L _ rdr hni (by omega) (by omega) (by omega)).mono ?_
   rintro e w4 ⟨rfl, hG4⟩
   have hO4 := hO.grow hG4
   have hK4 := hK.trans hG4.any
   by_cases hx0 : cell L E i i = 0
   ·have Hs := Lib.hid (facP_no hx0)
    rw [hx0]
    clear hx0 hni
    go_wp2
    go_roundw
    case rel => exact ⟨hK4, i + 1, n1, c1, a1, by omega, by go_num, rfl, by omega, by rw [Hs.out]; exact hO4, hlo⟩
    case measure => simp [intOf]; omega
   ·have Hs := Lib.hid (facP_yes hx0)
    have q3 : (cell L E i i != 0) = true := by simpa using hx0
    have bD4 := bDr.grow hG4
    clear d0 d1 d2 hltD
    obtain ⟨⟨d0, d1, d2⟩, -⟩ := bD4.three
    have hltD := bD4.lt
    go_wp2_with fail
    refine (l12Cell_c aa na ca E i i (D : Int) L _ (rdr.grow hG4) hni (by omega) (by omega) (by omega)).mono ?_
    rintro e w5 ⟨rfl, hG5⟩
    have hO5 := (hO4.grow hG5).grow ((Grow.refl w5).alloc #[.int .i64 (cell L E i i)] 3)
    have hK5 := hK4.trans (hG5.trans ((Grow.refl w5).alloc #[.int .i64 (cell L E i i)] 3)).any
    clear hni q3 hx0
    go_wp2_with (at_builtin; refine wpList_app rfl (.tmp 32) (.tmp 37) _ rfl T_ints rfl hO5 rfl (Row.bAt6 (S := fun _ => True) 1 rfl (by unfold maxLen; omega) rfl (fun _ => trivial)) (by simp [Value.oneCell']) (by omega) (by unfold maxLen; omega) ?_; intro a6 c6 w6 hA6)
    have hO6 : Own w6 3 1 a6 (n1 + 1) c6 (ints (facP L E (i + 1))) := by have := hA6.own; rw [Hs.out]; simpa [ints] using this
    have hK6 : Keep (fun g => g < w2.heap.size ∨ g = w2.heap.size) w3 w6 := hK5.trans (hA6.keep.mono fun q _ hq e => by have := hlo q e; omega)
    have hlo6 : ∀ g, blk a6 = some g → w2.heap.size < g := fun g hg => by
     rcases hA6.new with e | ⟨q, e, hq⟩
     ·exact hlo g (e ▸ hg)
     ·rw [e] at hg; obtain rfl := Option.some.inj hg; simp at hq; have := hG5.size; have := hG4.size; omega
    clear hA6 hO5 hK5 hO4 hK4
    go_wp2
    go_roundw
    case rel => exact ⟨hK6, i + 1, n1 + 1, c6, a6, by omega, by go_num, by go_num, by omega, hO6, hlo6⟩
    case measure => simp [intOf]; omega
  ·have hiE : M = i := by omega
   have He := Lib.hid (show facB m = facP L E i by rw [Hfac.out, ← HM.out, hiE])
   clear hiE
   go_wp2_with (refine wpList_min (o := ⟨some 23, _, _, _, _, _⟩) rfl rfl rfl rfl hmin ?_)
   go_ret2
   exact ⟨_, by rw [Hok.out]; rfl, by rw [He.out]; exact ⟨a1, n1, c1, rfl, hO, num_rng (facP_rng hnum), fun g hg => ⟨by have := hlo g hg; omega, hO.lt hg⟩⟩, Grow.keep (S := fun g => g < w2.heap.size ∨ g = w2.heap.size) (hG12.trans hG3) hK (fun g hg => .inl (by omega))⟩
end Go.Proofs.YtjepiemflpjjhaaGreat
