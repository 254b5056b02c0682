/-
  The reference's l4Split.
-/
import Derived.Test.YtdnpdfokdibmdaaDoorZSpl
namespace Go.Proofs.YtdnpdfokdibmdaaDoor
open Go.RowKit

theorem bytesAt (s : ByteArray) {k : Nat} (h : k < s.size) : s.data.toList[k]? = some s[k] := by
  rw [List.getElem?_eq_getElem (by simpa using h)]; simp; rfl
theorem bytesLen (s : ByteArray) : s.data.toList.length = s.size := by rw [Array.length_toList]; rfl
theorem byte_eq {a b : UInt8} : ((a.toNat : Int) == (b.toNat : Int)) = (some a == some b) := by
  rw [Bool.eq_iff_iff, beq_iff_eq, beq_iff_eq, Option.some.injEq]
  refine ⟨fun e => UInt8.toNat_inj.1 (by omega), fun e => by rw [e]⟩

set_option maxHeartbeats 8000000 in
set_option maxRecDepth 100000 in
theorem sSplit_c (s m : ByteArray) (w : World) (hs : s.size ≤ 1048576) (hm : m.size ≤ 1024) :
    Calls Tryd.prog 24 #[.string s, .string m] w fun e w' => ∃ v, e = .returned v ∧ OSS w' (New w w') v ((splitGo (fun c => m.data.toList.contains c) [] s.data.toList).map bstr) ∧ Grow w w' := by
  obtain ⟨p, hp⟩ : ∃ p : UInt8 → Bool, p = fun c => m.data.toList.contains c := ⟨_, rfl⟩
  rw [← hp]
  have Hp := Lib.hid hp; clear hp
  have HL := Lib.hid (bytesLen s)
  have HM := Lib.hid (bytesLen m)
  go_enter Tryd.func24, Tryd.ntmps24
  go_wp2
  go_loopw [5, 6, 7, 8, 9] (fun ov fv iv _ _ wr => Grow w wr ∧ ∃ (i f : Nat) (out : List (List UInt8)) (a' : Option Addr) (c' : Nat), i ≤ s.size + 1 ∧ f ≤ i ∧ out.length ≤ i ∧ fv = .int .i64 f ∧ iv = .int .i64 i ∧ ov = .slice a' out.length c' ∧ Own wr 9 1 a' out.length c' (strs (out.map bstr)) ∧ (∀ g, blk a' = some g → w.heap.size ≤ g) ∧ CutTo p s.data.toList i f out) (fun _ _ iv _ _ _ => s.size + 1 - (intOf iv).toNat)
  case atStart => exact ⟨(Grow.refl _).alloc _ _, 0, 0, [], _, 0, by omega, by omega, Nat.le_refl _, rfl, rfl, rfl, Own.fresh (by unfold maxLen; simp) rfl, fun g hg => by simp at hg; omega, by unfold CutTo; simp⟩
  case round =>
    obtain ⟨hG, i, f, out, a', c', hi, hf, ho, rfl, rfl, rfl, hO, hlo, hcut⟩ := hrel
    have Hcut := Lib.hid hcut; clear hcut
    by_cases hle : i ≤ s.size
    · obtain ⟨wo, rfl⟩ : ∃ wo, wo = wr := ⟨_, rfl⟩
      by_cases hlt : i < s.size
      · have q0 : ((i : Int) == (s.size : Int)) = false := by simp; omega
        have Hci := Lib.hid (bytesAt s hlt)
        go_wp2
        go_loopw [8, 9] (fun cv kv wr => Grow wo wr ∧ ∃ k : Nat, k ≤ m.size ∧ kv = .int .i64 k ∧ cv = .bool (hitB s.data.toList m.data.toList i k)) (fun _ kv _ => m.size - (intOf kv).toNat)
        case atStart => exact ⟨Grow.refl _, 0, Nat.zero_le _, rfl, by rw [hit_zero (by rw [HL.out]; omega)]⟩
        case round =>
          clear q0
          obtain ⟨hGr, k, hk, rfl, rfl⟩ := hrel
          by_cases hkm : k < m.size
          · have Hmk := Lib.hid (bytesAt m hkm)
            have Hsu := Lib.hid (hit_succ (L := s.data.toList) (i := i) Hmk.out)
            cases hh : hitB s.data.toList m.data.toList i k with
            | true =>
              have Hh := Lib.hid hh; clear hh
              go_wp2_with fail
              go_quiet (fail)
              go_wp2
              go_roundw
              case rel => exact ⟨hGr.drewN _, k + 1, by omega, by go_num, by rw [Hsu.out, Hh.out]; rfl⟩
              case measure => simp [intOf]; omega
            | false =>
              have Hh := Lib.hid hh; clear hh
              go_wp2_with fail
              go_quiet (fail)
              go_wp2
              go_roundw
              case rel => exact ⟨hGr.drewN _, k + 1, by omega, by go_num, by rw [Hsu.out, Hh.out, Hci.out, Bool.false_or, ← byte_eq]⟩
              case measure => simp [intOf]; omega
          · obtain rfl : k = m.size := by omega
            have Hall := Lib.hid (hit_all (M := m.data.toList) Hci.out)
            rw [HM.out] at Hall
            have Hpc := Lib.hid (show p s[i] = m.data.toList.contains s[i] by rw [Hp.out])
            have hO2 := hO.grow hGr
            have hGw := hG.trans hGr
            cases hh : m.data.toList.contains s[i] with
            | false =>
              have Hh := Lib.hid (Hall.out.trans hh)
              have Hcut2 := Lib.hid (cut_go Hcut.out Hci.out hf (Hpc.out.trans hh))
              clear hh
              rw [Hh.out]
              go_wp2
              go_roundw
              case rel => exact ⟨hGw, i + 1, f, out, a', c', by omega, by omega, by omega, rfl, by go_num, rfl, hO2, hlo, Hcut2.out⟩
              case measure => simp [intOf]; omega
            | true =>
              have Hh := Lib.hid (Hall.out.trans hh)
              have Hcut2 := Lib.hid (cut_hit (f := f) Hcut.out Hci.out (Hpc.out.trans hh))
              clear hh
              rw [Hh.out]
              have hO3 := hO2.grow ((Grow.refl wr).alloc #[.string (s.extract f i)] 9)
              go_wp2_with (at_builtin; refine wpList_app rfl (.tmp 44) (.tmp 49) _ rfl T_strs rfl hO3 rfl (Row.built (S := fun _ => True) 1 (by unfold maxLen; omega) rfl trivial) (by simp [Value.oneCell']) (by omega) (by unfold maxLen; omega) ?_; intro a3 c3 w3 hA3)
              have hG3 : Grow w w3 := hA3.grow (hGw.alloc _ _) hlo
              have hl3 := hA3.lo (B := w.heap.size) (by have := hGw.size; simp; omega) hlo
              have hO4 := hA3.own
              rw [extract_bstr] at hO4
              clear hA3 hO hO2 hO3
              go_wp2
              go_roundw
              case rel => exact ⟨hG3, i + 1, i + 1, out ++ [(s.data.toList.take i).drop f], a3, c3, by omega, Nat.le_refl _, by simp; omega, by go_num, by go_num, by simp, by simpa [strs] using hO4, hl3, Hcut2.out⟩
              case measure => simp [intOf]; omega
      · obtain rfl : i = s.size := by omega
        have Hcut2 := Lib.hid (show CutTo p s.data.toList (s.size + 1) (s.size + 1) (out ++ [(s.data.toList.take s.size).drop f]) by
          have := Hcut.out; rw [← HL.out] at this ⊢; exact cut_end this)
        have q0 : ((s.size : Int) == (s.size : Int)) = true := by simp
        go_wp2
        go_loopw [8, 9] (fun cv kv wr => Grow wo wr ∧ kv = .int .i64 0 ∧ cv = .bool true) (fun _ _ _ => 0)
        case atStart => exact ⟨Grow.refl _, rfl, rfl⟩
        case round =>
          obtain ⟨hGr, rfl, rfl⟩ := hrel
          have hO2 := hO.grow hGr
          have hGw := hG.trans hGr
          have hss : decide (s.size < s.size) = false := by simp
          by_cases hm0 : 0 < m.size
          · skip
            have hO3 := hO2.grow ((Grow.refl wr).alloc #[.string (s.extract f s.size)] 9)
            go_wp2_with (at_builtin; refine wpList_app rfl (.tmp 44) (.tmp 49) _ rfl T_strs rfl hO3 rfl (Row.built (S := fun _ => True) 1 (by unfold maxLen; omega) rfl trivial) (by simp [Value.oneCell']) (by omega) (by unfold maxLen; omega) ?_; intro a3 c3 w3 hA3)
            have hG3 : Grow w w3 := hA3.grow (hGw.alloc _ _) hlo
            have hl3 := hA3.lo (B := w.heap.size) (by have := hGw.size; simp; omega) hlo
            have hO4 := hA3.own
            rw [extract_bstr] at hO4
            clear hA3 hO hO2 hO3
            go_wp2
            go_roundw
            case rel => exact ⟨hG3, s.size + 1, s.size + 1, out ++ [(s.data.toList.take s.size).drop f], a3, c3, by omega, Nat.le_refl _, by simp; omega, by go_num, by go_num, by simp, by simpa [strs] using hO4, hl3, Hcut2.out⟩
            case measure => simp [intOf]
          · skip
            have hO3 := hO2.grow ((Grow.refl wr).alloc #[.string (s.extract f s.size)] 9)
            go_wp2_with (at_builtin; refine wpList_app rfl (.tmp 44) (.tmp 49) _ rfl T_strs rfl hO3 rfl (Row.built (S := fun _ => True) 1 (by unfold maxLen; omega) rfl trivial) (by simp [Value.oneCell']) (by omega) (by unfold maxLen; omega) ?_; intro a3 c3 w3 hA3)
            have hG3 : Grow w w3 := hA3.grow (hGw.alloc _ _) hlo
            have hl3 := hA3.lo (B := w.heap.size) (by have := hGw.size; simp; omega) hlo
            have hO4 := hA3.own
            rw [extract_bstr] at hO4
            clear hA3 hO hO2 hO3
            go_wp2
            go_roundw
            case rel => exact ⟨hG3, s.size + 1, s.size + 1, out ++ [(s.data.toList.take s.size).drop f], a3, c3, by omega, Nat.le_refl _, by simp; omega, by go_num, by go_num, by simp, by simpa [strs] using hO4, hl3, Hcut2.out⟩
            case measure => simp [intOf]
    · obtain rfl : i = s.size + 1 := by omega
      have Hres := Lib.hid (show splitGo p [] s.data.toList = out by have := Hcut.out; unfold CutTo at this; rw [this, if_neg (by rw [HL.out]; omega)]; simp)
      go_wp2
      go_ret
      exact ⟨_, rfl, by rw [Hres.out]; exact ⟨_, _, _, rfl, hO, fun g hg => ⟨hlo g hg, hO.lt hg⟩⟩, hG⟩
end Go.Proofs.YtdnpdfokdibmdaaDoor
