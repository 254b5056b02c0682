/-
  The laws' marks on strings; comparing and marking of []string.
-/
import Derived.Test.YtlpkcdgkkjmagaaStrs
import Derived.Test.YtlpkcdgkkjmagaaKindII
import Derived.Test.YtlpkcdgkkjmagaaSegs
namespace Go.Proofs.Ytlpkcdgkkjmagaa
open Go.RowKit

/-- The digits of k ahead of acc; f: enough rounds. -/
def mdig : Nat → Nat → ByteArray → ByteArray
  | 0, _, acc => acc
  | f + 1, k, acc => if k = 0 then acc else mdig f (k / 10) (strOfNums [48 + (k : Int) % 10] ++ acc)
def mtext (k : Nat) : ByteArray := ⟨#[109]⟩ ++ mdig k k ⟨#[]⟩
theorem mdig_step {f k : Nat} {acc : ByteArray} (hk : 0 < k) : mdig (f + 1) k acc = mdig f (k / 10) (strOfNums [48 + (k : Int) % 10] ++ acc) := by
  show (if k = 0 then _ else _) = _
  rw [if_neg (by omega)]
theorem mdig_zero {f : Nat} {acc : ByteArray} : mdig f 0 acc = acc := by cases f <;> simp [mdig]
theorem strOfNums_one (x : Int) : (strOfNums [x]).size = 1 := by simp [strOfNums]; rfl
theorem mdig_size : ∀ (f k : Nat) (acc : ByteArray), (mdig f k acc).size ≤ acc.size + k
  | 0, k, acc => by simp [mdig]
  | f + 1, k, acc => by
    by_cases hk : k = 0
    · subst hk; rw [mdig_zero]; omega
    · rw [mdig_step (by omega)]
      have := mdig_size f (k / 10) (strOfNums [48 + (k : Int) % 10] ++ acc)
      rw [ByteArray.size_append, strOfNums_one] at this
      omega
theorem mtext_size {k : Nat} (hk : k ≤ 4294967296) : (mtext k).size ≤ 4294967300 := by
  have := mdig_size k k ⟨#[]⟩
  unfold mtext
  rw [ByteArray.size_append]
  have e1 : (⟨#[109]⟩ : ByteArray).size = 1 := rfl
  have e2 : (⟨#[]⟩ : ByteArray).size = 0 := rfl
  omega
set_option maxHeartbeats 1000000 in
theorem markText_c (k : Nat) (w : World) (hk : 0 < k) (hb : k ≤ 4294967296) :
    Calls Try.prog 43 #[.int .i64 k] w fun e w' => e = .returned (.string (mtext k)) ∧ Grow w w' := by
  go_enter Try.func43, Try.ntmps43
  go_wp2
  go_loopw [0, 3] (fun q s wr => Grow w wr ∧ ∃ (f j : Nat) (acc : ByteArray), q = .int .i64 j ∧ s = .string acc ∧ j ≤ f ∧ j ≤ k ∧ acc.size + j ≤ k ∧ mdig f j acc = mdig k k ⟨#[]⟩) (fun q _ _ => (intOf q).toNat)
  case atStart => exact ⟨Grow.refl _, k, k, ⟨#[]⟩, rfl, rfl, Nat.le_refl _, Nat.le_refl _, by show 0 + k ≤ k; omega, rfl⟩
  case round =>
    obtain ⟨hG, f, j, acc, rfl, rfl, hjf, hjk, hsz, he⟩ := hrel
    have He := Lib.hid he; clear he
    by_cases h0 : 0 < j
    · have hcv := run_convert_bytes_arg (P := Try.prog) (wr.alloc (.cells #[.int .u8 (48 + (j : Int) % 10)] 5)) 72 5 Try.underlying72 Try.underlying5 wr.heap.size 0 1 1 [48 + (j : Int) % 10] rfl (fun i hi => by
        obtain rfl : i = 0 := by omega
        exact (Blk.new wr #[.int .u8 (48 + (j : Int) % 10)] 5).cell 0) 9 Try.underlying9
      have hone := strOfNums_one (48 + (j : Int) % 10)
      generalize hq : strOfNums [48 + (j : Int) % 10] = q at *
      have hsum : q.size + acc.size ≤ 9223372036854775807 := by omega
      have Hq := Lib.hid hq; clear hq
      go_wp2
      go_roundw
      case rel =>
        refine ⟨hG.alloc _ _, f - 1, j / 10, q ++ acc, by go_num, rfl, by omega, by omega, by rw [ByteArray.size_append]; omega, ?_⟩
        rw [← He.out, ← Hq.out]
        obtain ⟨f', rfl⟩ : ∃ f', f = f' + 1 := ⟨f - 1, by omega⟩
        rw [mdig_step h0]; rfl
      case measure => simp [intOf]; omega
    · have hsum : (⟨#[109]⟩ : ByteArray).size + acc.size ≤ 9223372036854775807 := by show 1 + acc.size ≤ _; omega
      go_wp2
      go_ret
      refine ⟨?_, hG⟩
      have hj : j = 0 := by omega
      subst hj
      have := He.out
      rw [mdig_zero] at this
      unfold mtext
      rw [← this]
      rfl

set_option maxHeartbeats 1000000 in
theorem eq_SS {S T : Nat → Prop} {u v : Value} {l : List ByteArray} {w : World} (h : VSS w S u l) (h' : VSS w T v l) (hb : bdSS l ≤ 2097152) : Calls Try.prog 22 #[u, v] w fun e w' => e = .returned (.bool true) ∧ Grow w w' := by
  obtain ⟨a, n, c, rfl, h⟩ := h
  obtain ⟨a', n', c', rfl, h'⟩ := h'
  have hl := h.len
  have hl' := h'.len
  obtain rfl : n' = n := by omega
  unfold bdSS at hb
  clear hl'
  go_enter Try.func22, Try.ntmps22
  go_wp2
  go_loopw [5] (fun i wr => Qt w wr ∧ ∃ k : Nat, k ≤ n' ∧ i = .int .i64 k) (fun i _ => n' - (intOf i).toNat)
  case atStart => exact ⟨Qt.refl _, 0, Nat.zero_le _, rfl⟩
  case round =>
    obtain ⟨hG, k, hk, rfl⟩ := hrel
    by_cases hlt : k < n'
    · obtain ⟨b1, off1, x, rfl, hx, _, hbw, hc⟩ := (h.grow hG.grow).at hlt
      obtain ⟨b2, off2, y, rfl, hy, _, hbw2, hc2⟩ := (h'.grow hG.grow).at hlt
      obtain rfl : y = x := Option.some.inj (hy.symm.trans hx)
      clear hx hy
      have hxy : (y.toList != y.toList) = false := by simp
      go_wp2
      go_quiet (fail)
      go_wp2
      go_roundw
      case rel => exact ⟨hG.drewN _, k + 1, by omega, by go_num⟩
      case measure => simp [intOf]; omega
    · go_wp2
      go_ret
      exact ⟨rfl, hG.grow⟩

def mkSS (l : List ByteArray) (k : Nat) : List ByteArray := (List.range l.length).map fun i => mtext (k + i)
@[simp] theorem mkSS_len (l : List ByteArray) (k : Nat) : (mkSS l k).length = l.length := by simp [mkSS]
theorem mkSS_at {l : List ByteArray} {k i : Nat} (h : i < l.length) : (mkSS l k)[i]? = some (mtext (k + i)) := by simp [mkSS, h]
theorem set_markS {l : List ByteArray} {k i : Nat} (h : i < l.length) : (strs ((mkSS l k).take i) ++ strs (l.drop i)).set i (.string (mtext (k + i))) = strs ((mkSS l k).take (i + 1)) ++ strs (l.drop (i + 1)) := by
  have h1 : (strs ((mkSS l k).take i)).length = i := by simp; omega
  rw [List.set_append_right _ _ (by omega), h1, Nat.sub_self, take_succ (mkSS_at (k := k) h), strs_append, List.drop_eq_getElem_cons h]
  simp only [strs, List.map_cons, List.map_nil, List.set_cons_zero, List.append_assoc, List.cons_append, List.nil_append]
set_option maxHeartbeats 1000000 in
theorem mark_SS {F : Nat → Prop} {v : Value} {l : List ByteArray} {w : World} (k : Nat) (h : OSS w F v l) (hb : 0 < k ∧ bdSS l + k ≤ 4294967296) : Calls Try.prog 24 #[v, .int .i64 k] w fun e w' =>
    e = .returned (.int .i64 ((k + cntSS l : Nat) : Int)) ∧ OSS w' F v (mkSS l k) ∧ Keep (fun g => ¬ F g) w w' := by
  obtain ⟨a, n, cap, rfl, h, hF⟩ := h
  have hl : l.length = n := by simpa using h.len
  obtain ⟨hk, hb⟩ := hb
  unfold bdSS at hb
  go_enter Try.func24, Try.ntmps24
  go_wp2
  go_loopw [1, 5] (fun q i wr => ∃ j : Nat, j ≤ n ∧ i = .int .i64 j ∧ q = .int .i64 ((k + j : Nat) : Int) ∧ Own wr 9 1 a n cap (strs ((mkSS l k).take j) ++ strs (l.drop j)) ∧ Keep (fun g => blk a ≠ some g) w wr) (fun _ i _ => n - (intOf i).toNat)
  case atStart => exact ⟨0, Nat.zero_le _, rfl, rfl, by simpa [strs] using h, Keep.refl _ _⟩
  case round =>
    obtain ⟨j, hj, rfl, rfl, hO, hK⟩ := hrel
    by_cases hlt : j < n
    · cases a with
      | none => have := h.nil rfl; have := h.le; omega
      | some p =>
        have hp := (hO.block p rfl).1
        obtain ⟨pb, po, ps⟩ := p
        simp only [Addr.mk.injEq, true_and] at hp
        obtain ⟨rfl, rfl⟩ := hp
        go_wp2_with fail
        refine (markText_c (k + j) _ (by omega) (by omega)).mono ?_
        rintro e w1 ⟨rfl, hG1⟩
        have hO1 := hO.grow hG1
        have hce : ∃ c, (strs ((mkSS l k).take j) ++ strs (l.drop j))[j]? = some c := by
          rw [List.getElem?_append_right (by simp; omega)]
          exact ⟨_, List.getElem?_eq_getElem (by simp; omega)⟩
        obtain ⟨c, hc⟩ := hce
        have hfr := hO1.free j
        have hcell := hO1.cell hc
        simp only at hfr hcell
        have Hc := Lib.hid hc; clear hc
        go_wp2
        go_roundw
        case rel =>
          refine ⟨j + 1, by omega, by go_num, by go_num, ?_, (hK.trans (hG1.mono fun _ _ _ => trivial)).setCell (p := ⟨_, j, none⟩) (fun _ e => e rfl) _⟩
          have := hO1.set j (.string (mtext (k + j)))
          rw [set_markS (by omega)] at this
          simpa using this
        case measure => simp [intOf]; omega
    · go_wp2
      go_ret
      have : j = n := by omega
      subst this
      refine ⟨ret_int (by unfold cntSS; rw [hl]), ⟨_, _, _, rfl, ?_, hF⟩, hK.mono fun q _ hq e => hq (hF q e)⟩
      have hd : l.drop j = [] := by rw [← hl]; simp
      rw [hd, take_all (by simp [hl])] at hO
      simpa [strs] using hO
set_option maxHeartbeats 1000000 in
theorem held_SS {S : Nat → Prop} {v : Value} {l : List ByteArray} {w : World} (k : Nat) (h : VSS w S v (mkSS l k)) (hb : 0 < k ∧ bdSS l + k ≤ 4294967296) : Calls Try.prog 25 #[v, .int .i64 k] w fun e w' =>
    e = .returned (.int .i64 ((k + cntSS l : Nat) : Int)) ∧ Grow w w' := by
  obtain ⟨a, n, cap, rfl, h⟩ := h
  have hl : l.length = n := by simpa using h.len
  obtain ⟨hk, hb⟩ := hb
  unfold bdSS at hb
  go_enter Try.func25, Try.ntmps25
  go_wp2
  go_loopw [1, 5] (fun q i wr => Grow w wr ∧ ∃ j : Nat, j ≤ n ∧ i = .int .i64 j ∧ q = .int .i64 ((k + j : Nat) : Int)) (fun _ i _ => n - (intOf i).toNat)
  case atStart => exact ⟨Grow.refl _, 0, Nat.zero_le _, rfl, rfl⟩
  case round =>
    obtain ⟨hG, j, hj, rfl, rfl⟩ := hrel
    by_cases hlt : j < n
    · obtain ⟨b, off, x, rfl, hx, _, hbw, hc⟩ := (h.grow hG).at hlt
      rw [mkSS_at (by omega)] at hx
      obtain rfl := Option.some.inj hx
      clear hx
      have hxy : ((mtext (k + j)).toList != (mtext (k + j)).toList) = false := by simp
      go_wp2
      refine wp_region_segs (S := Grow wr) [([0, 1, 2, 3, 4], some 5), ([6], none)] P_mixed (by kernel_rfl) (fun _ _ _ _ _ h => h) (Grow.refl _).drew ?_
      show wpQuiet _ _ _ _ [_, _, _, _, _] _
      repeat (first | go_big_quiet_skip | (go_big_quiet_want; first | (apply quiet_load CT_str; rfl; rfl; exact (fun w' hG => hG.cell hc); go_big_quiet_on; simp only [Act.put, List.setIfInBounds_toArray, List.set_cons_succ, List.set_cons_zero]) | (go_big_quiet_op; first | go_big_quiet_on | (refine ⟨_, (fun _ _ => rfl), ?_⟩; go_big_quiet_on))))
      refine wpQuiet_nil ?_
      refine seg_go rfl (fun K hK => ?_)
      go_wp2_with fail
      refine (markText_c (k + j) _ (by omega) (by omega)).mono ?_
      rintro e w1 ⟨rfl, hG1⟩
      have hG2 : Grow wr w1 := (Grow.refl wr).drew.trans hG1
      go_wp2_with fail
      refine hK _ _ (hG2) ?_
      clear hK K
      show wpQuiet _ _ _ _ [_] _
      try (conv => arg 6; simp only [Act.put, List.setIfInBounds_toArray, List.set_cons_succ, List.set_cons_zero])
      repeat (first | go_big_quiet_skip | (go_big_quiet_want; first | (apply quiet_load CT_str; rfl; rfl; exact (fun w' hG => hG.cell hc); go_big_quiet_on; simp only [Act.put, List.setIfInBounds_toArray, List.set_cons_succ, List.set_cons_zero]) | (go_big_quiet_op; first | go_big_quiet_on | (refine ⟨_, (fun _ _ => rfl), ?_⟩; go_big_quiet_on))))
      refine wpQuiet_nil ?_
      refine wpSegs_nil ?_
      go_wp2
      go_roundw
      case rel => exact ⟨hG.trans hG2, j + 1, by omega, by go_num, by go_num⟩
      case measure => simp [intOf]; omega
    · go_wp2
      go_ret
      have : j = n := by omega
      subst this
      exact ⟨ret_int (by unfold cntSS; rw [hl]), hG⟩
end Go.Proofs.Ytlpkcdgkkjmagaa
