/-
  Strings: equality of bytes; lists without repeats.
-/
import Derived.Test.YtgeoehnbpkediaaZRdc
set_option maxHeartbeats 8000000
set_option maxRecDepth 100000
namespace Go.Proofs.Ytgeoehnbpkediaa
open Go.RowKit
theorem nodup_le {α : Type} [DecidableEq α] : ∀ {l r : List α}, l.Nodup → (∀ x ∈ l, x ∈ r) → l.length ≤ r.length
 | [], _, _, _ => Nat.zero_le _
 | x :: l, r, hn, hs => by
  rw [List.nodup_cons] at hn
  have hx := hs x (by simp)
  have := nodup_le (l := l) (r := r.erase x) hn.2 (fun y hy => (List.mem_erase_of_ne (fun e => hn.1 (by rw [← e]; exact hy))).2 (hs y (by simp [hy])))
  rw [List.length_erase_of_mem hx] at this
  have h0 : 0 < r.length := List.length_pos_of_mem hx
  simp; omega
end Go.Proofs.Ytgeoehnbpkediaa

namespace Go.Proofs.Ytgeoehnbpkediaa
open Go.RowKit
def strs (l : List ByteArray) : List Value := l.map .string
@[simp] theorem strs_len (l : List ByteArray) : (strs l).length = l.length := by simp [strs]
theorem strs_at {l : List ByteArray} {k : Nat} {s : ByteArray} (h : l[k]? = some s) : (strs l)[k]? = some (.string s) := by simp [strs, h]
structure RdS (w : World) (S : Nat → Prop) (a : Option Addr) (n cap : Nat) (l : List ByteArray) : Prop where
 row : Row w S 1 a n cap (strs l)
 len : l.length = n
theorem RdS.keep {S T : Nat → Prop} {w w' : World} {a : Option Addr} {n cap : Nat} {l : List ByteArray} (h : RdS w S a n cap l) (hk : Keep T w w') (hST : ∀ b, b < w.heap.size → S b → T b) : RdS w' S a n cap l := ⟨h.row.keep hk hST, h.len⟩
theorem RdS.grow {S : Nat → Prop} {w w' : World} {a : Option Addr} {n cap : Nat} {l : List ByteArray} (h : RdS w S a n cap l) (hk : Grow w w') : RdS w' S a n cap l := h.keep hk fun _ _ _ => trivial
theorem RdS.at {S : Nat → Prop} {w : World} {a : Option Addr} {n cap : Nat} {l : List ByteArray} (h : RdS w S a n cap l) {k : Nat} (hk : k < n) :
  ∃ b off s, a = some ⟨b, off, none⟩ ∧ l[k]? = some s ∧ S b ∧ b < w.heap.size ∧ w.cell? ⟨b, off + k, none⟩ = some (.string s) := by
 have hlt : k < l.length := by have := h.len; omega
 have hk' : l[k]? = some l[k] := List.getElem?_eq_getElem hlt
 obtain ⟨b, off, ha, hS, hc⟩ := h.row.addr (by intro e; have := strs_at hk'; rw [e] at this; simp at this)
 have h0 := hc _ _ (strs_at hk')
 exact ⟨b, off, l[k], ha, hk', hS, World.block_lt_of_cell? w _ h0, h0⟩
theorem Own.rdS {w : World} {S : Nat → Prop} {e : TypeId} {a : Option Addr} {n cap : Nat} {l : List ByteArray} (h : Own w e 1 a n cap (strs l)) (hS : ∀ g, blk a = some g → S g) : RdS w S a n cap l := ⟨h.row hS, by simpa using h.len⟩
def VSS (w : World) (S : Nat → Prop) (v : Value) (l : List ByteArray) : Prop := ∃ a n c, v = .slice a n c ∧ RdS w S a n c l
def OSS (w : World) (F : Nat → Prop) (v : Value) (l : List ByteArray) : Prop := ∃ a n c, v = .slice a n c ∧ Own w 9 1 a n c (strs l) ∧ ∀ g, blk a = some g → F g
theorem VSS.keep {S T : Nat → Prop} {w w' : World} {v : Value} {l : List ByteArray} (h : VSS w S v l) (hk : Keep T w w') (hST : ∀ b, b < w.heap.size → S b → T b) : VSS w' S v l := by
 obtain ⟨a, n, c, rfl, h⟩ := h; exact ⟨a, n, c, rfl, h.keep hk hST⟩
theorem VSS.grow {S : Nat → Prop} {w w' : World} {v : Value} {l : List ByteArray} (h : VSS w S v l) (hk : Grow w w') : VSS w' S v l := h.keep hk fun _ _ _ => trivial
theorem VSS.weak {S T : Nat → Prop} {w : World} {v : Value} {l : List ByteArray} (h : VSS w S v l) (hST : ∀ b, b < w.heap.size → S b → T b) : VSS w T v l := by
 obtain ⟨a, n, c, rfl, h⟩ := h; exact ⟨a, n, c, rfl, h.row.weak hST, h.len⟩
theorem OSS.keep {F T : Nat → Prop} {w w' : World} {v : Value} {l : List ByteArray} (h : OSS w F v l) (hk : Keep T w w') (hT : ∀ b, b < w.heap.size → F b → T b) : OSS w' F v l := by
 obtain ⟨a, n, c, rfl, h1, h3⟩ := h; exact ⟨a, n, c, rfl, h1.keep hk (fun g hg hlt => hT g hlt (h3 g hg)), h3⟩
theorem OSS.grow {F : Nat → Prop} {w w' : World} {v : Value} {l : List ByteArray} (h : OSS w F v l) (hk : Grow w w') : OSS w' F v l := h.keep hk fun _ _ _ => trivial
theorem OSS.weak {F G : Nat → Prop} {w : World} {v : Value} {l : List ByteArray} (h : OSS w F v l) (hF : ∀ b, b < w.heap.size → F b → G b) : OSS w G v l := by
 obtain ⟨a, n, c, rfl, h1, h3⟩ := h; exact ⟨a, n, c, rfl, h1, fun g hg => hF g (h1.lt hg) (h3 g hg)⟩
theorem OSS.rd {F S : Nat → Prop} {w : World} {v : Value} {l : List ByteArray} (h : OSS w F v l) (hS : ∀ b, F b → S b) : VSS w S v l := by
 obtain ⟨a, n, c, rfl, h1, h3⟩ := h; exact ⟨a, n, c, rfl, h1.rdS fun g hg => hS g (h3 g hg)⟩
end Go.Proofs.Ytgeoehnbpkediaa
