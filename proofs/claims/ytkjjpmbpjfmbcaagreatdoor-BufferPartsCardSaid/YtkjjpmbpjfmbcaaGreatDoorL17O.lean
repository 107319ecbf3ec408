/-
  An argument that is a slice of messages: its row; and that it reads behind the call as it read.
-/
import Derived.Test.YtkjjpmbpjfmbcaaGreatDoorL17A
import Derived.Test.YtkjjpmbpjfmbcaaGreatDoorV8
import Derived.ChangeMaps5
set_option linter.unusedVariables false
set_option linter.unusedSimpArgs false
namespace Go.Vm.YtkjjpmbpjfmbcaaGreatDoor
open Go.Proofs Go.Vm.R Go.Deep
noncomputable section
variable {H : Type} {enc : TypeId × Value → H}
/-- a cell of a message, as the evaluator and as the model have it -/
inductive CellV : V → Value → Prop
  | int (z : Int) : CellV (.int .i64 z) (.int .i64 z)
  | str (s : ByteArray) : CellV (sv s.data.toList) (.string s)
theorem u22 : Tryz.prog.underlying 22 = some (.slice 31) := by kernel_rfl
theorem c31n : Tryz.prog.cellsOf 31 = 4 := by kernel_rfl
theorem c3n : Tryz.prog.cellsOf 3 = 1 := by kernel_rfl
theorem c9n : Tryz.prog.cellsOf 9 = 1 := by kernel_rfl
theorem pl31 : plainT Tryz.prog 8 31 = true := by kernel_rfl
set_option maxRecDepth 100000 in
theorem trod_msg {w : World} {base : Nat} {sp : Nat → Bool} {hd : Bool} {fuel : Nat} {cs : List Value} {x : DataW H × List MemPlace} (h : DataW.trod enc Tryz.prog w base sp hd fuel 31 cs = some x) :
    ∃ (z : Int) (s1 s2 s3 : ByteArray), cs = [.int .i64 z, .string s1, .string s2, .string s3] := by
  obtain ⟨xs, n, rfl, hx, hl, hxl, hall⟩ := DataW.trod_struct Tryz.underlying31 h
  rw [c31n] at hl
  match cs, hl with
  | [c0, c1, c2, c3], _ =>
    match xs, hxl with
    | [y0, y1, y2, y3], _ =>
      have f0 : DataW.trod enc Tryz.prog w base sp hd n 3 (([c0, c1, c2, c3].drop 0).take (Tryz.prog.cellsOf 3)) = some y0 := hall 0 _ rfl
      have f1 : DataW.trod enc Tryz.prog w base sp hd n 9 (([c0, c1, c2, c3].drop 1).take (Tryz.prog.cellsOf 9)) = some y1 := hall 1 _ rfl
      have f2 : DataW.trod enc Tryz.prog w base sp hd n 9 (([c0, c1, c2, c3].drop 2).take (Tryz.prog.cellsOf 9)) = some y2 := hall 2 _ rfl
      have f3 : DataW.trod enc Tryz.prog w base sp hd n 9 (([c0, c1, c2, c3].drop 3).take (Tryz.prog.cellsOf 9)) = some y3 := hall 3 _ rfl
      rw [c3n] at f0
      rw [c9n] at f1 f2 f3
      obtain ⟨z, e0, _⟩ := DataW.trod_int Tryz.underlying3 f0
      obtain ⟨s1, e1, _⟩ := DataW.trod_string Tryz.underlying9 f1
      obtain ⟨s2, e2, _⟩ := DataW.trod_string Tryz.underlying9 f2
      obtain ⟨s3, e3, _⟩ := DataW.trod_string Tryz.underlying9 f3
      simp at e0 e1 e2 e3
      exact ⟨z, s1, s2, s3, by rw [e0, e1, e2, e3]⟩
theorem rowV_msg_get (full : List RK.msg.T) (i : Nat) (hi : i < full.length) (x : Int × List UInt8 × List UInt8 × List UInt8) (hx : full[i]? = some x) : ∀ q : Nat, q < 4 → (rowV .msg full)[4 * i + q]? = ([V.int .i64 x.1, sv x.2.1, sv x.2.2.1, sv x.2.2.2] : List V)[q]? := by
  induction full generalizing i with
  | nil => simp at hi
  | cons y r ih =>
    intro q hq
    cases i with
    | zero =>
      have : y = x := Option.some.inj hx
      subst this
      have h4 : q = 0 ∨ q = 1 ∨ q = 2 ∨ q = 3 := by omega
      rcases h4 with rfl | rfl | rfl | rfl <;> rfl
    | succ i =>
      have := ih i (by simpa using hi) (by simpa using hx) q hq
      rw [show 4 * (i + 1) + q = (4 * i + q) + 4 by omega]
      exact this
set_option maxRecDepth 100000 in
theorem open_msgs {W : World} {v : Value} {d : DataW H} {ps : List MemPlace} (h : DataW.Trod enc Tryz.prog W 0 (fun _ => true) true 22 v d ps) {base : Nat} (hval : Value.okWide Tryz.prog W .any base 22 v) :
    (v = .slice none 0 0 ∧ ∀ (W' : World) (sp : Nat → Bool), DataW.Trod enc Tryz.prog W' 0 sp true 22 v d ps) ∨
    ∃ (a : Addr) (len cap : Nat) (full : List RK.msg.T) (cs : Array Value) (row : TypeId) (fr : Nat × Nat), v = .slice (some a) len cap ∧ a.spot = none ∧ len ≤ cap ∧ cap ≤ maxLen ∧ full.length = cap ∧
      W.heap[a.block]? = some (.cells cs row fr) ∧ (∀ i v, (rowV .msg full)[i]? = some v → ∃ x, cs[a.off + i]? = some x ∧ CellV v x) ∧
      ∀ W', Kept W W' → ∀ sp : Nat → Bool, (∀ p ∈ ps, sp p.block = true) → DataW.Trod enc Tryz.prog W' 0 sp true 22 v d ps := by
  have hc : Cell.ok Tryz.prog W .any base 22 v := by
    unfold Value.okWide at hval
    rw [u22] at hval
    simp only at hval
    unfold Cell.okWide at hval
    rw [u22] at hval
    exact hval
  obtain ⟨fuel, h⟩ := h
  rcases open_slice u22 h with ⟨hcs, hx⟩ | ⟨a, len, cap, m, n, D, Pl, hcs, _, hlc, hm, hmm, hx, hel⟩
  · left
    unfold Cell.ok at hc
    rw [u22] at hc
    have hv : v = .slice none 0 0 := by
      cases v <;> first | exact hc.elim | skip
      rename_i a l c
      have : [Value.slice a l c] = [.slice none 0 0] := hcs
      simpa using this
    refine ⟨hv, fun W' sp => ⟨1, ?_⟩⟩
    rw [hcs, hx]
    unfold DataW.trod
    simp only [u22]
  · right
    have hm' : m = cap := hmm
    subst hm'
    have hv : v = .slice (some a) len m := by
      unfold Cell.ok at hc
      rw [u22] at hc
      cases v <;> first | exact hc.elim | skip
      rename_i a' l c
      have : [Value.slice a' l c] = [.slice (some a) len m] := hcs
      simpa using this
    subst hv
    unfold Cell.ok at hc
    rw [u22] at hc
    obtain ⟨_, _, _, hspot, row, cells, hsh, _⟩ := hc
    obtain ⟨cs, fr, hb⟩ : ∃ cs fr, W.heap[a.block]? = some (.cells cs row fr) := by
      unfold World.shape? at hsh
      split at hsh
      · rename_i c el fr hb
        cases hsh
        exact ⟨c, fr, hb⟩
      · cases hsh
    have hlt : a.block < W.heap.size := (Array.getElem?_eq_some_iff.1 hb).1
    rw [c31n] at hel
    obtain ⟨S, hS⟩ := choose_lt (α := Int × ByteArray × ByteArray × ByteArray) (n := m) (p := fun i s => W.cells? 0 (a.add (i * 4)) 4 = some [.int .i64 s.1, .string s.2.1, .string s.2.2.1, .string s.2.2.2] ∧ DataW.trod enc Tryz.prog W 0 (fun _ => true) true n 31 [.int .i64 s.1, .string s.2.1, .string s.2.2.1, .string s.2.2.2] = some (D i, Pl i)) (fun i hi => by
      obtain ⟨cs', h1, h2⟩ := hel i hi
      obtain ⟨z, s1, s2, s3, rfl⟩ := trod_msg h2
      exact ⟨(z, s1, s2, s3), h1, h2⟩)
    have hcell : ∀ i, i < m → ∀ q : Nat, q < 4 → cs[a.off + (4 * i + q)]? = ([Value.int .i64 (S i).1, .string (S i).2.1, .string (S i).2.2.1, .string (S i).2.2.2] : List Value)[q]? := by
      intro i hi q hq
      obtain ⟨_, _, h3⟩ := World.cells?_some (hS i hi).1
      have hadd : ∀ j, a.add j = ⟨a.block, a.off + j, none⟩ := by
        intro j
        obtain ⟨b, o, sp⟩ := a
        have : sp = none := hspot
        subst this
        exact WideShapes.add_plain b o j
      have c0 := h3 q hq
      rw [hadd, WideShapes.add_plain] at c0
      simp only [World.cell?, hb] at c0
      rw [show a.off + (4 * i + q) = a.off + i * 4 + q by omega]
      simpa using c0
    have ex : ∃ full : List (Int × List UInt8 × List UInt8 × List UInt8), full.length = m ∧ ∀ k, k < m → full[k]? = some ((S k).1, (S k).2.1.data.toList, (S k).2.2.1.data.toList, (S k).2.2.2.data.toList) :=
      ⟨(List.range m).map (fun i => ((S i).1, (S i).2.1.data.toList, (S i).2.2.1.data.toList, (S i).2.2.2.data.toList)), by simp, fun k hk => by simp [hk]⟩
    obtain ⟨full, hfl, hfg⟩ : ∃ full : List RK.msg.T, full.length = m ∧ ∀ k, k < m → full[k]? = some ((S k).1, (S k).2.1.data.toList, (S k).2.2.1.data.toList, (S k).2.2.2.data.toList) := ex
    refine ⟨a, len, m, full, cs, row, fr, rfl, hspot, hlc, hm, hfl, hb, ?_, ?_⟩
    · intro i v hiv
      have hlen : i < m * 4 := by
        have := (List.getElem?_eq_some_iff.1 hiv).1
        rw [rowV_len, hfl] at this
        exact this
      have hk : i / 4 < m := by omega
      have hg := rowV_msg_get full (i / 4) (by rw [hfl]; exact hk) _ (hfg _ hk)
      have hcc := hcell (i / 4) hk (i % 4) (by omega)
      have hi4 : 4 * (i / 4) + i % 4 = i := by omega
      have hg := hg (i % 4) (by omega)
      rw [hi4] at hcc hg
      rw [hg] at hiv
      generalize S (i / 4) = q at *
      have h4 : i % 4 = 0 ∨ i % 4 = 1 ∨ i % 4 = 2 ∨ i % 4 = 3 := by omega
      rcases h4 with h | h | h | h <;> rw [h] at hiv hcc <;> cases hiv
      · exact ⟨_, hcc, .int _⟩
      · exact ⟨_, hcc, .str _⟩
      · exact ⟨_, hcc, .str _⟩
      · exact ⟨_, hcc, .str _⟩
    · intro W' k sp hsp
      have hx1 := congrArg Prod.fst hx
      have hx2 := congrArg Prod.snd hx
      simp only at hx1 hx2
      have hread : ∀ i, i < m → ∃ cs' n', W'.cells? 0 (a.add (i * Tryz.prog.cellsOf 31)) (Tryz.prog.cellsOf 31) = some cs' ∧ DataW.trod enc Tryz.prog W' 0 sp true n' 31 cs' = some (D i, Pl i) := by
        intro i hi
        obtain ⟨h1, h2⟩ := hS i hi
        refine ⟨_, n, ?_, (trod_plain n 8 31 _ _ pl31 h2).1⟩
        rw [c31n]
        refine cells_kept k h1 ?_
        have : (a.add (i * 4)).block = a.block := by unfold Addr.add; split <;> rfl
        rw [this]; exact hlt
      rw [hx1, hx2]
      cases hs : sp a.block with
      | true => exact shut_slice_whole u22 (Nat.zero_le _) hlc hm hs D Pl hread
      | false =>
        have h0 : m = 0 := by
          rcases Nat.eq_zero_or_pos m with h | h
          · exact h
          · exfalso
            have hmem : MemPlace.cell a.block a.off ∈ ps := by
              rw [hx2, c31n]
              refine List.mem_append_left _ ?_
              unfold MemPlace.row
              simp only [List.mem_map, List.mem_range]
              exact ⟨0, by omega, by simp⟩
            have := hsp _ hmem
            rw [show (MemPlace.cell a.block a.off).block = a.block from rfl, hs] at this
            cases this
        subst h0
        obtain rfl : len = 0 := by omega
        exact shut_slice u22 (Nat.zero_le _) hlc hm hs D Pl (fun i hi => absurd hi (by omega))

theorem msg_at {W : World} {B : Base} {el : Nat → Nat} (hW : BaseAt B el W) (hB : B = []) (hother : ∃ g cs e fr, W.heap[g]? = some (.cells cs e fr) ∧ ∀ y ∈ B, y.1 ≠ g)
    {a : Addr} {len cap : Nat} {full : List RK.msg.T} {cs : Array Value} {row : TypeId} {fr : Nat × Nat} (hspot : a.spot = none) (hlc : len ≤ cap) (hfl : full.length = cap) (hb : W.heap[a.block]? = some (.cells cs row fr))
    (hc : ∀ i v, (rowV .msg full)[i]? = some v → ∃ x, cs[a.off + i]? = some x ∧ CellV v x) (n : Nat) :
    ∃ (p : Pl) (e z : Nat), RowAt W B p (rowV .msg full) e z ∧ ∀ ρ h, ρ n = some p → VRel ρ h (R.toV (fun s => n + s) (.rs 0 0 len cap 4 true)) (.slice (some a) len cap) := by
  have hlen : (rowV .msg full).length = cap * 4 := by rw [rowV_len, hfl]; rfl
  rcases Nat.eq_zero_or_pos cap with h0 | h0
  · obtain ⟨g, cs2, e2, fr2, hg, hne⟩ := hother
    refine ⟨⟨g, 0, cs2.size⟩, e2, fr2.2, ⟨⟨cs2, fr2, hg, rfl, ?_, ?_, ?_⟩, hne⟩, fun ρ h hρ => ?_⟩
    · rw [hlen, h0]; show 0 + 0 * 4 ≤ cs2.size; omega
    · show fr2.2 ≤ 0 + fr2.2; omega
    · intro i v hiv
      have := (List.getElem?_eq_some_iff.1 hiv).1
      omega
    · subst h0
      obtain rfl : len = 0 := by omega
      exact .sl (p := ⟨g, 0, cs2.size⟩) hρ (Nat.le_refl _) (Nat.le_refl _) (fun _ => rfl) (fun h => absurd h (Nat.lt_irrefl 0)) (by show 0 + 0 * 4 + 0 * 4 ≤ cs2.size; omega)
  · have hlast : a.off + cap * 4 ≤ cs.size := by
      have hi : cap * 4 - 1 < (rowV .msg full).length := by omega
      obtain ⟨s, hs, _⟩ := hc (cap * 4 - 1) _ (List.getElem?_eq_getElem hi)
      have := (Array.getElem?_eq_some_iff.1 hs).1
      omega
    refine ⟨⟨a.block, a.off, cs.size⟩, row, fr.2, ⟨⟨cs, fr, hb, rfl, ?_, ?_, ?_⟩, ?_⟩, fun ρ h hρ => ?_⟩
    · rw [hlen]; exact hlast
    · show fr.2 ≤ a.off + fr.2; omega
    · intro i v hiv
      obtain ⟨x, hs, hv⟩ := hc i v hiv
      refine ⟨_, hs, ?_⟩
      cases hv with
      | int z => exact .int _ z
      | str s => exact .str s
    · intro y hy
      rw [hB] at hy; cases hy
    · obtain ⟨b, o, sp⟩ := a
      have : sp = none := hspot
      subst this
      refine .sl (p := ⟨b, o, cs.size⟩) hρ hlc (Nat.le_refl _) (fun _ => rfl) (fun _ => ?_) ?_
      · show (⟨b, o, none⟩ : Addr) = ⟨b, o + 0 * 4, none⟩
        rw [Nat.zero_mul, Nat.add_zero]
      · show o + 0 * 4 + cap * 4 ≤ cs.size
        have : o + cap * 4 ≤ cs.size := hlast
        omega
end
end Go.Vm.YtkjjpmbpjfmbcaaGreatDoor
