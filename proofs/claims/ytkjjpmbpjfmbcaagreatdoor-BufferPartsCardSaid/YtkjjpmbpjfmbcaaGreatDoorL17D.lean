/-
  Layer 17: where the first message lies that has a part in a range; copies of messages.
-/
import Derived.Test.YtkjjpmbpjfmbcaaGreatDoorL17C
set_option linter.unusedVariables false
set_option linter.unusedSimpArgs false
namespace Go.Vm.YtkjjpmbpjfmbcaaGreatDoor
open Go.Proofs Go.Vm.R
noncomputable section
def noP (x y : Txt) : List Msg → Bool
  | [] => true
  | m :: r => cond (partOk m x y) false (noP x y r)
def idxP (x y : Txt) : List Msg → Int → Int
  | [], z => z
  | m :: r, z => cond (partOk m x y) z (idxP x y r (z + 1))
def b65 : CC := match loopsIn none c65.body with | [(_, b)] => b | _ => .skip
def P65 (j n : Nat) (full : List Msg) (n' z : Int) : Bool := decide (n' = n ∧ j + n ≤ full.length ∧ n < 99 ∧ 0 ≤ z ∧ z ≤ n)
def S65 (j n : Nat) (full : List Msg) (x y : Txt) (z : Int) : Bool := noP x y ((seg full j n).drop z.toNat)
def I65 (j n : Nat) (full : List Msg) (x y : Txt) (z : Int) : Int := idxP x y ((seg full j n).drop z.toNat) z
def lt65 (j n c : Nat) (ex : Bool) (j1 n1 c1 : Nat) (ex1 : Bool) (n' z : Int) (x y : Txt) (full : List Msg) (sp : Bool) (el : R.EL) : LT := .need (Nat.beq j1 j && (Nat.beq n1 n && P65 j n full n' z)) (.br (S65 j n full x y z) (.exit 0 [] [.r .msg full sp el, .c [.str x] false 9, .c [.str y] false 9]) (.ret [.int .i64 (I65 j n full x y z)] [.r .msg full sp el, .c [.str x] false 9, .c [.str y] false 9]))
def ld65 : LoopD := ⟨[(0, none), (1, none), (6, none), (7, none), (8, none)], [], [(4, none)], fun vs ao => match vs, ao with
  | [.rs 0 j n c 4 ex, .fn 64 [.ptr 1 0, .ptr 2 0], .rs 0 j1 n1 c1 4 ex1, .int .i64 n', .int .i64 z], [.r .msg full sp el, .c [.str x] false 9, .c [.str y] false 9] => some (n - z.toNat, lt65 j n c ex j1 n1 c1 ex1 n' z x y full sp el)
  | _, _ => none⟩
theorem turn65 (j n c : Nat) (ex : Bool) (c1 : Nat) (ex1 : Bool) (n' z : Int) (x0 y0 : Txt) (full : List Msg) (sp : Bool) (el : R.EL) (m : Nat) (rd k1 : R.EK) (y : List (Nat × R.EK)) :
    (turnD C Y0 (fun _ => none) 100 19 3 0 b65 ld65 m [.rs 0 j n c 4 ex, .fn 64 [.ptr 1 0, .ptr 2 0], .rs 0 j n c1 4 ex1, .int .i64 n', .int .i64 z] [.r .msg full sp el, .c [.str x0] false 9, .c [.str y0] false 9] rd k1 y).ev =
    cond (decide (z < n')) (cond (decide (0 ≤ z) && decide (Int.toNat z < n)) (cond (Nat.blt (j + Int.toNat z) (List.length full)) (cond (partOk (rec full j z) x0 y0) ((rd (envZ [4] [R.DV.int IntKind.i64 z]) (mkD [DO.r RK.msg full sp el, R.DO.c [R.DV.str x0] false 9, R.DO.c [R.DV.str y0] false 9] 3)).ev) (cond (decide (n - Int.toNat (IntKind.wrap IntKind.i64 (z + 1)) < m)) (cond (Nat.beq j j && (Nat.beq n n && P65 j n full n' (IntKind.wrap IntKind.i64 (z + 1)))) (cond (S65 j n full x0 y0 (IntKind.wrap IntKind.i64 (z + 1))) ((k1 (envZ [] []) (mkD [DO.r RK.msg full sp el, R.DO.c [R.DV.str x0] false 9, R.DO.c [R.DV.str y0] false 9] 3)).ev) ((rd (envZ [4] [R.DV.int IntKind.i64 (I65 j n full x0 y0 (IntKind.wrap IntKind.i64 (z + 1)))]) (mkD [DO.r RK.msg full sp el, R.DO.c [R.DV.str x0] false 9, R.DO.c [R.DV.str y0] false 9] 3)).ev)) none) none)) none) none) ((k1 (envZ [] []) (mkD [DO.r RK.msg full sp el, R.DO.c [R.DV.str x0] false 9, R.DO.c [R.DV.str y0] false 9] 3)).ev) := by kernel_rfl
theorem step65 (j n c : Nat) (ex : Bool) (c1 : Nat) (ex1 : Bool) (n' z : Int) (x0 y0 : Txt) (full : List Msg) (sp : Bool) (el : R.EL) (rd k1 : R.EK) (y : List (Nat × R.EK)) (w : R.DV × R.DH) (hw : ((lt65 j n c ex j n c1 ex1 n' z x0 y0 full sp el).tree 3 ld65 rd ((0, k1) :: y)).ev = some w) :
    (turnD C Y0 (fun _ => none) 100 19 3 0 b65 ld65 (n - z.toNat) [.rs 0 j n c 4 ex, .fn 64 [.ptr 1 0, .ptr 2 0], .rs 0 j n c1 4 ex1, .int .i64 n', .int .i64 z] [.r .msg full sp el, .c [.str x0] false 9, .c [.str y0] false 9] rd k1 y).ev = some w := by
  replace hw := lt_need hw
  obtain ⟨hp, hw⟩ := hw
  have hjj : Nat.beq j j = true := Nat.beq_refl j
  have hnn : Nat.beq n n = true := Nat.beq_refl n
  rw [hjj, hnn] at hp
  simp only [Bool.true_and, P65, decide_eq_true_eq] at hp
  obtain ⟨rfl, p1, p2, p3, p4⟩ := hp
  rw [lt_br] at hw
  replace hw : cond (S65 j n full x0 y0 z) (k1 (envZ [] []) (mkD [DO.r RK.msg full sp el, R.DO.c [R.DV.str x0] false 9, R.DO.c [R.DV.str y0] false 9] 3)).ev (rd (envZ [4] [R.DV.int IntKind.i64 (I65 j n full x0 y0 z)]) (mkD [DO.r RK.msg full sp el, R.DO.c [R.DV.str x0] false 9, R.DO.c [R.DV.str y0] false 9] 3)).ev = some w := hw
  rw [turn65, hjj, hnn]
  unfold S65 I65 at hw
  by_cases h1 : z < n
  · have e4 : P65 j n full n (z + 1) = true := by
      simp only [P65, decide_eq_true_eq]
      refine ⟨trivial, p1, p2, ?_, ?_⟩ <;> omega
    rw [cT h1, cA p3 (show z.toNat < n by omega), cB (show j + z.toNat < full.length by omega), nextI p3 h1 (by omega), e4, cT (show n - (z + 1).toNat < n - z.toNat by omega)]
    rw [seg_rec p1 p3 h1] at hw
    rw [show noP x0 y0 (rec full j z :: (seg full j n).drop (z + 1).toNat) = cond (partOk (rec full j z) x0 y0) false (noP x0 y0 ((seg full j n).drop (z + 1).toNat)) from rfl,
      show idxP x0 y0 (rec full j z :: (seg full j n).drop (z + 1).toNat) z = cond (partOk (rec full j z) x0 y0) z (idxP x0 y0 ((seg full j n).drop (z + 1).toNat) (z + 1)) from rfl] at hw
    revert hw
    cases partOk (rec full j z) x0 y0 <;> exact id
  · rw [cF h1]
    rw [seg_end p1 h1 p3] at hw
    exact hw
theorem loop65 {n : Nat} (hn : 100 ≤ n) : LoopOk C.G 3 (callO noTmps C.O C.tab n) n 100 19 0 b65 ld65 := by
  refine loop_of C Y0 (lh := fun _ => none) hn ?_ (fun p _ ld h => by cases h) ?_
  · exact wf_loops _ none (wf_body (f := 65) rfl) (0, b65) (by rw [show loopsIn none c65.body = [(0, b65)] from rfl]; exact List.mem_cons_self)
  intro vs ao m t hs rd k1 y w hw
  unfold ld65 at hs
  simp only at hs
  split at hs
  case h_2 => cases hs
  cases hs
  have hp := (lt_need hw).1
  simp only [Bool.and_eq_true] at hp
  obtain ⟨h1, h2, _⟩ := hp
  have h1 := Nat.eq_of_beq_eq_true h1
  have h2 := Nat.eq_of_beq_eq_true h2
  subst h1 h2
  exact step65 _ _ _ _ _ _ _ _ _ _ _ _ _ _ _ _ _ hw
def out65 (full : List Msg) (j n : Nat) (x y : Txt) : RD := .need (okG full j n) (.br (noP x y (seg full j n)) (.v (.int .i64 (-1)) []) (.v (.int .i64 (idxP x y (seg full j n) 0)) []))
theorem run65 (j n c : Nat) (ex : Bool) (x0 y0 : Txt) (full : List Msg) (sp : Bool) (el : R.EL) : runD C Y0 (lhX ld65) 100 c65 [.rs 0 j n c 4 ex, .fn 64 [.ptr 1 0, .ptr 2 0]] [.r .msg full sp el, .c [.str x0] false 9, .c [.str y0] false 9] =
    cond (decide (n - 0 < 100)) (cond (Nat.beq j j && (Nat.beq n n && P65 j n full (↑n : Int) 0)) (cond (S65 j n full x0 y0 0) (some (R.DV.int IntKind.i64 (-1), (mkD [DO.r RK.msg full sp el, R.DO.c [R.DV.str x0] false 9, R.DO.c [R.DV.str y0] false 9] 3))) (some (R.DV.int IntKind.i64 (I65 j n full x0 y0 0), (mkD [DO.r RK.msg full sp el, R.DO.c [R.DV.str x0] false 9, R.DO.c [R.DV.str y0] false 9] 3)))) none) none := by kernel_rfl
theorem lawX65 (j n c : Nat) (ex : Bool) (x0 y0 : Txt) (full : List Msg) (sp : Bool) (el : R.EL) : LawOk C.G C.O C.tab 65 101 [.r .msg full sp el, .c [.str x0] false 9, .c [.str y0] false 9] [.rs 0 j n c 4 ex, .fn 64 [.ptr 1 0, .ptr 2 0]] (out65 full j n x0 y0) := by
  refine law_of C Y0 (lhX ld65) rfl rfl (fun n hn => lhX_ok (Q := fun i b ld => LoopOk C.G 3 (callO noTmps C.O C.tab n) n 100 19 i b ld) rfl (loop65 hn)) fun z hz => ?_
  obtain ⟨hp, hz⟩ := R.ev_need hz
  refine (run65 j n c ex x0 y0 full sp el).trans ?_
  obtain ⟨p1, p2⟩ := okG_iff.1 hp
  have hjj : Nat.beq j j = true := Nat.beq_refl j
  have hnn : Nat.beq n n = true := Nat.beq_refl n
  have e4 : P65 j n full n 0 = true := by
    simp only [P65, decide_eq_true_eq]
    refine ⟨trivial, p1, p2, ?_, ?_⟩ <;> omega
  rw [hjj, hnn, e4, cT (show n - 0 < 100 by omega)]
  have e5 : S65 j n full x0 y0 0 = noP x0 y0 (seg full j n) := rfl
  have e6 : I65 j n full x0 y0 0 = idxP x0 y0 (seg full j n) 0 := rfl
  rw [e5, e6]
  refine Eq.trans ?_ hz
  show _ = (R.Tree.br (noP x0 y0 (seg full j n)) (.ok _ _) (.ok _ _)).ev
  rw [ev_br]
  cases noP x0 y0 (seg full j n) <;> rfl
theorem lawX65n (x0 y0 : Txt) : LawOk C.G C.O C.tab 65 101 [.c [.str x0] false 9, .c [.str y0] false 9] [.nils, .fn 64 [.ptr 0 0, .ptr 1 0]] (.v (.int .i64 (-1)) []) := by
  refine law_of C Y0 (fun _ => none) rfl rfl (fun n hn p _ ld e => by cases e) fun z hz => ?_
  refine Eq.trans ?_ hz
  kernel_rfl
def gX65 : List R.DV → List R.DO → Option RD := fun l ao => match l, ao with
  | [.rs 0 j n c 4 ex, .fn 64 [.ptr 1 0, .ptr 2 0]], [.r .msg full sp el, .c [.str x] false 9, .c [.str y] false 9] => some (out65 full j n x y)
  | [.nils, .fn 64 [.ptr 0 0, .ptr 1 0]], [.c [.str x] false 9, .c [.str y] false 9] => some (.v (.int .i64 (-1)) [])
  | _, _ => none
theorem gX65_ok (l : List R.DV) (ao : List R.DO) (out : RD) (h : gX65 l ao = some out) : LawOk C.G C.O C.tab 65 101 ao l out := by
  unfold gX65 at h
  split at h
  · cases h; exact lawX65 _ _ _ _ _ _ _ _ _
  · cases h; exact lawX65n _ _
  · cases h
/-! ### copies -/
def out66 (full : List Msg) (j n : Nat) : RD := .need (okG full j n) (.br (Nat.beq n 0) (.v (.rs 1 0 0 0 4 true) [.r .msg [] false 31]) (.v (.rs 1 0 n n 4 false) [.r .msg (seg full j n) true 31]))
theorem run66 (j n c : Nat) (ex : Bool) (full : List Msg) (sp : Bool) (el : R.EL) : runD C Y0 (fun _ => none) 100 c66 [.rs 0 j n c 4 ex] [.r .msg full sp el] =
    cond (Nat.ble (j + n) (List.length full)) (cond (decide (0 + List.length (List.take n (List.drop j full)) ≤ 0)) (cond (decide (List.length (List.take n (List.drop j full)) = 0)) (some (DV.rs 1 0 0 0 4 true, (mkD [DO.r RK.msg full sp el, DO.r RK.msg [] false { e := 31, z := 0 }] 1))) (cond (decide (0 + List.length (List.take n (List.drop j full)) ≤ 0)) (some (DV.rs 1 0 (0 + List.length (List.take n (List.drop j full))) 0 4 true, (mkD [DO.r RK.msg full sp el, DO.r RK.msg (List.take 0 [] ++ List.take n (List.drop j full) ++ List.drop (0 + List.length (List.take n (List.drop j full))) []) false { e := 31, z := 0 }] 1))) none)) (cond (roomFor (0 + List.length (List.take n (List.drop j full))) 56 && true) (some (DV.rs 1 0 (0 + List.length (List.take n (List.drop j full))) (0 + List.length (List.take n (List.drop j full))) 4 false, (mkD [DO.r RK.msg full sp el, DO.r RK.msg (List.take 0 (List.drop 0 []) ++ List.take n (List.drop j full)) true { e := 31, z := 0 }] 1))) none)) none := by kernel_rfl
theorem law66 (j n c : Nat) (ex : Bool) (full : List Msg) (sp : Bool) (el : R.EL) : LawOk C.G C.O C.tab 66 101 [.r .msg full sp el] [.rs 0 j n c 4 ex] (out66 full j n) := by
  refine law_of C Y0 (fun _ => none) rfl rfl (fun n hn p _ ld e => by cases e) fun z hz => ?_
  obtain ⟨hp, hz⟩ := R.ev_need hz
  refine (run66 j n c ex full sp el).trans ?_
  obtain ⟨p1, p2⟩ := okG_iff.1 hp
  have hl := seg_len p1
  have hs : List.take n (List.drop j full) = seg full j n := rfl
  have hb : Nat.ble (j + n) full.length = true := Nat.ble_eq_true_of_le p1
  rw [hs, hl, hb, Nat.zero_add]
  refine Eq.trans ?_ hz
  show _ = (R.Tree.br (Nat.beq n 0) (.ok (.rs 1 0 0 0 4 true) (mkD [DO.r RK.msg full sp el, DO.r RK.msg [] false 31] 1)) (.ok (.rs 1 0 n n 4 false) (mkD [DO.r RK.msg full sp el, DO.r RK.msg (seg full j n) true 31] 1))).ev
  rw [ev_br]
  cases n with
  | zero => rfl
  | succ m =>
    rw [show roomFor (m + 1) 56 = true from room_msg (by omega), cF (show ¬ m + 1 ≤ 0 by omega)]; rfl
theorem law66n : LawOk C.G C.O C.tab 66 101 [] [.nils] (.v .nils []) := by
  refine law_of C Y0 (fun _ => none) rfl rfl (fun n hn p _ ld e => by cases e) fun z hz => ?_
  refine Eq.trans ?_ hz
  kernel_rfl
def g66 : List R.DV → List R.DO → Option RD := fun l ao => match l, ao with
  | [.rs 0 j n c 4 ex], [.r .msg full sp el] => some (out66 full j n)
  | [.nils], [] => some (.v .nils [])
  | _, _ => none
theorem g66_ok (l : List R.DV) (ao : List R.DO) (out : RD) (h : g66 l ao = some out) : LawOk C.G C.O C.tab 66 101 ao l out := by
  unfold g66 at h
  split at h
  · cases h; exact law66 _ _ _ _ _ _ _
  · cases h; exact law66n
  · cases h
end
end Go.Vm.YtkjjpmbpjfmbcaaGreatDoor
