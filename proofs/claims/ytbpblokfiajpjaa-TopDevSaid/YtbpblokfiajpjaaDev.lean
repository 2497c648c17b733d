/- A device: its model in plain Lean, what it is in memory (the program's), and what its methods do. No conditions. -/
import Derived.Test.YtbpblokfiajpjaaRow
import Derived.Test.YtbpblokfiajpjaaErrs
import Derived.Test.YtbpblokfiajpjaaShelf
import Derived.Deep.RegionHeld3
import Derived.Deep.Cut
namespace Go.SL
open Go.RowKit
/-- a store into a row -/
theorem own_row_set {w : World} {L : List HP} (k : Nat) {e : TypeId} {sz g n cap : Nat} {xs : List Value} (j : Nat) (u : Value) (H : own w L) (hk : L[k]? = some (row e sz (.slice (some ⟨g, 0, none⟩) n cap) n xs)) (hn : 0 < n) :
    own (w.setCell ⟨g, j, none⟩ u) (L.set k (row e sz (.slice (some ⟨g, 0, none⟩) n cap) n (xs.set j u))) := by
  obtain ⟨hl, ⟨h1, h2⟩ | ⟨g', cap', cur, h1, h2, h3, h4, h5, h6⟩⟩ := own_row k H hk
  · omega
  · simp only [Value.slice.injEq, Option.some.injEq, Addr.mk.injEq, and_true, true_and] at h1
    obtain ⟨rfl, rfl⟩ := h1
    have hkl : k < L.length := (List.getElem?_eq_some_iff.1 hk).1
    have h7 := own_set k (b := g) (arr := cur) (T := e) (fr := (0, 0)) (i := j) (v := u) h6 (by simp [hkl])
    have h8 := own_row_of k (g := g) (cur := cur.setIfInBounds j u) (e := e) (n := n) (cap := cap) (sz := sz) (xs := xs.set j u) h7 (by simp [hkl]) h2 h3 (by simpa using h4) (by
      rw [Array.toList_setIfInBounds, List.take_set, h5])
    simpa only [List.set_set] using h8
end Go.SL
namespace Go.Proofs.Ytbpblokfiajpjaa
open Go.RowKit Go.SL

theorem elem_string : Elem Try.prog 9 1 16 (.string ByteArray.empty) := by unfold Elem; kernel_rfl

structure DevM where
  fl : List ByteArray
  pend : List (Int × ByteArray)
  fail : Int
  writes : Int

def strCells (l : List ByteArray) : List Value := l.map .string
def pendCells (l : List (Int × ByteArray)) : List Value := l.flatMap fun x => [.int .i64 x.1, .string x.2]

structure DevM.Ok (m : DevM) : Prop where
  n : m.fl.length ≤ 200
  fl : ∀ s ∈ m.fl, s.size = 16
  p : m.pend.length ≤ 1000000
  pend : ∀ x ∈ m.pend, 0 ≤ x.1 ∧ x.1 < m.fl.length ∧ x.2.size = 16
  fail : -1 ≤ m.fail ∧ m.fail ≤ 9223372036854775807
  writes : 0 ≤ m.writes ∧ m.writes ≤ 1000000

def devAt (b : Nat) (m : DevM) : HP := exi fun v : Value × Value => star [pts b (.cells #[v.1, v.2, .int .i64 m.fail, .int .i64 m.writes] 133 (0, 0)), row 9 1 v.1 m.fl.length (strCells m.fl), row 137 2 v.2 m.pend.length (pendCells m.pend)]

theorem dev_open {w : World} {b : Nat} {m : DevM} {R : List HP} (H : own w (devAt b m :: R)) : ∃ vf vp, own w (pts b (.cells #[vf, vp, .int .i64 m.fail, .int .i64 m.writes] 133 (0, 0)) :: row 9 1 vf m.fl.length (strCells m.fl) :: row 137 2 vp m.pend.length (pendCells m.pend) :: R) := by
  obtain ⟨v, h⟩ := own_open 0 (L := fun v : Value × Value => [pts b (.cells #[v.1, v.2, .int .i64 m.fail, .int .i64 m.writes] 133 (0, 0)), row 9 1 v.1 m.fl.length (strCells m.fl), row 137 2 v.2 m.pend.length (pendCells m.pend)]) H rfl fun h hh => hh
  exact ⟨v.1, v.2, h⟩
theorem dev_close {w : World} {b : Nat} {m : DevM} {R : List HP} {vf vp : Value} (H : own w (pts b (.cells #[vf, vp, .int .i64 m.fail, .int .i64 m.writes] 133 (0, 0)) :: row 9 1 vf m.fl.length (strCells m.fl) :: row 137 2 vp m.pend.length (pendCells m.pend) :: R)) : own w (devAt b m :: R) :=
  own_close [pts b (.cells #[vf, vp, .int .i64 m.fail, .int .i64 m.writes] 133 (0, 0)), row 9 1 vf m.fl.length (strCells m.fl), row 137 2 vp m.pend.length (pendCells m.pend)] (fun h hh => ⟨(vf, vp), hh⟩) H

theorem strCells_get {l : List ByteArray} {i : Nat} (h : i < l.length) : (strCells l)[i]? = some (.string (l.getD i ByteArray.empty)) := by simp [strCells, h]
theorem pendCells_get {l : List (Int × ByteArray)} : ∀ {i : Nat}, i < l.length → (pendCells l)[i * 2]? = some (.int .i64 (l.getD i (0, ByteArray.empty)).1) ∧ (pendCells l)[i * 2 + 1]? = some (.string (l.getD i (0, ByteArray.empty)).2) := by
  induction l with
  | nil => intro i h; simp at h
  | cons x l ih =>
    intro i h
    cases i with
    | zero => simp [pendCells]
    | succ i =>
      have := ih (i := i) (by simpa using h)
      simp only [pendCells, List.flatMap_cons] at this ⊢
      have e : (i + 1) * 2 = i * 2 + 2 := by omega
      rw [e]
      simpa using this
theorem pendCells_append (l m : List (Int × ByteArray)) : pendCells (l ++ m) = pendCells l ++ pendCells m := by simp [pendCells]
theorem pend_mem {l : List (Int × ByteArray)} {i : Nat} (h : i < l.length) : l.getD i (0, ByteArray.empty) ∈ l := by simp [h]

def DevM.seen (m : DevM) (at_ : Int) : ByteArray := m.pend.foldl (fun s x => if x.1 = at_ then x.2 else s) (m.fl.getD at_.toNat ByteArray.empty)
def setAt (f : List ByteArray) (x : Int × ByteArray) : List ByteArray := f.set x.1.toNat x.2
def DevM.flush (m : DevM) : DevM := { m with fl := m.pend.foldl setAt m.fl, pend := [] }
def keptOnes : List (Int × ByteArray) → List Bool → List (Int × ByteArray)
  | x :: p, k :: ks => if k then x :: keptOnes p ks else keptOnes p ks
  | _, _ => []
theorem keptOnes_snoc (p : List (Int × ByteArray)) (x : Int × ByteArray) : ∀ ks : List Bool, keptOnes (p ++ [x]) ks = keptOnes p ks ++ (if ks.getD p.length false then [x] else []) := by
  induction p with
  | nil => intro ks; cases ks with
    | nil => rfl
    | cons k ks => cases k <;> rfl
  | cons y p ih => intro ks; cases ks with
    | nil => rfl
    | cons k ks =>
      simp only [List.cons_append, keptOnes, ih, List.length_cons, List.getD_cons_succ]
      cases k <;> rfl
def DevM.crash (m : DevM) (keep : List Bool) : DevM := { fl := (keptOnes m.pend keep).foldl setAt m.fl, pend := [], fail := -1, writes := m.writes }
def DevM.bad (m : DevM) (at_ : Int) (s : ByteArray) : Bool := decide (at_ < 0) || decide ((m.fl.length : Int) ≤ at_) || decide (s.size ≠ 16)
def DevM.write (m : DevM) (at_ : Int) (s : ByteArray) : Int × DevM :=
  if m.bad at_ s then (1, m) else if m.fail = 0 then (7, { m with fail := -1 })
  else (0, { m with fail := if 0 < m.fail then m.fail - 1 else m.fail, pend := m.pend ++ [(at_, s)], writes := m.writes + 1 })

theorem foldl_setAt_length (p : List (Int × ByteArray)) : ∀ f : List ByteArray, (p.foldl setAt f).length = f.length := by
  induction p with
  | nil => intro f; rfl
  | cons x p ih => intro f; rw [List.foldl_cons, ih]; simp [setAt]
theorem foldl_setAt_all {p : List (Int × ByteArray)} : ∀ {f : List ByteArray}, (∀ s ∈ f, s.size = 16) → (∀ x ∈ p, x.2.size = 16) → ∀ s ∈ p.foldl setAt f, s.size = 16 := by
  induction p with
  | nil => intro f h _; exact h
  | cons x p ih =>
    intro f h hp
    refine ih (fun s hs => ?_) fun y hy => hp y (by simp [hy])
    rcases List.mem_or_eq_of_mem_set hs with h' | rfl
    · exact h _ h'
    · exact hp x (by simp)
theorem DevM.flush_ok {m : DevM} (h : m.Ok) : m.flush.Ok :=
  ⟨by simp only [flush, foldl_setAt_length]; exact h.n, foldl_setAt_all h.fl fun x hx => (h.pend x hx).2.2, by simp [flush], fun x hx => by simp [flush] at hx, h.fail, h.writes⟩
theorem keptOnes_mem {x : Int × ByteArray} : ∀ {p : List (Int × ByteArray)} {keep : List Bool}, x ∈ keptOnes p keep → x ∈ p
  | [], [], h => by simp [keptOnes] at h
  | [], _ :: _, h => by simp [keptOnes] at h
  | y :: p, [], h => by simp [keptOnes] at h
  | y :: p, k :: ks, h => by
    cases k
    · exact List.mem_cons_of_mem _ (keptOnes_mem (p := p) (keep := ks) (by simpa [keptOnes] using h))
    · simp only [keptOnes, if_true, List.mem_cons] at h
      rcases h with rfl | h
      · simp
      · exact List.mem_cons_of_mem _ (keptOnes_mem h)
theorem DevM.crash_ok {m : DevM} (h : m.Ok) (keep : List Bool) : (m.crash keep).Ok :=
  ⟨by simp only [crash, foldl_setAt_length]; exact h.n, foldl_setAt_all h.fl fun x hx => (h.pend x (keptOnes_mem hx)).2.2, by simp [crash], fun x hx => by simp [crash] at hx, by simp [crash], h.writes⟩
theorem DevM.write_ok {m : DevM} (h : m.Ok) (at_ : Int) (s : ByteArray) (hp : m.pend.length < 1000000) (hw : m.writes < 1000000) : (m.write at_ s).2.Ok := by
  unfold DevM.write
  split
  · exact h
  · rename_i hb
    simp only [DevM.bad, Bool.or_eq_true, decide_eq_true_eq, not_or] at hb
    split
    · exact ⟨h.n, h.fl, h.p, h.pend, by simp, h.writes⟩
    · have hf := h.fail
      have hw' := h.writes
      refine ⟨h.n, h.fl, by simp; omega, fun x hx => ?_, ?_, ?_⟩
      · simp only [List.mem_append, List.mem_singleton] at hx
        rcases hx with hx | rfl
        · exact h.pend x hx
        · exact ⟨by omega, by dsimp only; omega, by dsimp only; omega⟩
      · dsimp only; split <;> omega
      · dsimp only; omega

set_option maxHeartbeats 400000 in
theorem dev_size (b : Nat) (m : DevM) (R : List HP) (w : World) (H : own w (devAt b m :: R)) :
    Calls Try.prog 48 #[.pointer (some ⟨b, 0, none⟩)] w fun e w' => e = .returned (.int .i64 m.fl.length) ∧ w = w' := by
  obtain ⟨vf, vp, h⟩ := dev_open H
  obtain ⟨ao, g, cap, rfl, r1, r2, _⟩ := own_row_form 1 h rfl
  obtain ⟨c, f⟩ := own_cells 0 h rfl
  go_enter Try.func48, Try.ntmps48
  go_wp2
  go_ret
  exact ⟨rfl, rfl⟩

set_option maxHeartbeats 400000 in
theorem dev_pending (b : Nat) (m : DevM) (R : List HP) (w : World) (H : own w (devAt b m :: R)) :
    Calls Try.prog 76 #[.pointer (some ⟨b, 0, none⟩)] w fun e w' => e = .returned (.int .i64 m.pend.length) ∧ w = w' := by
  obtain ⟨vf, vp, h⟩ := dev_open H
  obtain ⟨ao, g, cap, rfl, r1, r2, _⟩ := own_row_form 2 h rfl
  obtain ⟨c, f⟩ := own_cells 0 h rfl
  go_enter Try.func76, Try.ntmps76
  go_wp2
  go_ret
  exact ⟨rfl, rfl⟩

set_option maxHeartbeats 400000 in
theorem dev_writes (b : Nat) (m : DevM) (R : List HP) (w : World) (H : own w (devAt b m :: R)) :
    Calls Try.prog 84 #[.pointer (some ⟨b, 0, none⟩)] w fun e w' => e = .returned (.int .i64 m.writes) ∧ w = w' := by
  obtain ⟨vf, vp, h⟩ := dev_open H
  obtain ⟨c, f⟩ := own_cells 0 h rfl
  go_enter Try.func84, Try.ntmps84
  go_wp2
  go_ret
  exact ⟨rfl, rfl⟩

set_option maxHeartbeats 400000 in
theorem dev_fail (b : Nat) (m : DevM) (n : Int) (R : List HP) (w : World) (H : own w (devAt b m :: R)) :
    Calls Try.prog 57 #[.pointer (some ⟨b, 0, none⟩), .int .i64 n] w fun e w' => e = .returned (errV (if n < 0 then 1 else 0)) ∧ Ext w w' ∧ own w' (devAt b (if n < 0 then m else { m with fail := n }) :: R) := by
  by_cases hn : n < 0
  · simp only [hn, if_true]
    go_enter Try.func57, Try.ntmps57
    go_wp2
    go_ret
    exact ⟨rfl, Ext.refl _, H⟩
  · simp only [hn, if_false]
    obtain ⟨vf, vp, h⟩ := dev_open H
    obtain ⟨c, f⟩ := own_cells 0 h rfl
    go_enter Try.func57, Try.ntmps57
    go_wp2
    go_ret
    exact ⟨rfl, (Ext.refl _).setCell _ _, dev_close (m := { m with fail := n }) (own_set 0 h rfl)⟩

theorem seen_back {p : List (Int × ByteArray)} {at_ : Int} {s : ByteArray} {k : Nat} (hk : k ≤ p.length) (h : ∀ j, k ≤ j → j < p.length → (p.getD j (0, ByteArray.empty)).1 ≠ at_) :
    p.foldl (fun s x => if x.1 = at_ then x.2 else s) s = (p.take k).foldl (fun s x => if x.1 = at_ then x.2 else s) s := by
  conv => lhs; rw [← List.take_append_drop k p]
  rw [List.foldl_append]
  generalize (p.take k).foldl (fun s x => if x.1 = at_ then x.2 else s) s = t
  have : ∀ x ∈ p.drop k, x.1 ≠ at_ := fun x hx => by
    obtain ⟨j, hj, rfl⟩ := List.getElem_of_mem hx
    simp only [List.length_drop] at hj
    have := h (k + j) (by omega) (by omega)
    simpa [show k + j < p.length by omega] using this
  generalize p.drop k = q at this
  induction q with
  | nil => rfl
  | cons x q ih => rw [List.foldl_cons, if_neg (this x (by simp))]; exact ih fun y hy => this y (by simp [hy])
theorem take_succ_getD {α : Type} {p : List α} {k : Nat} (d : α) (hk : k < p.length) : p.take (k + 1) = p.take k ++ [p.getD k d] := by
  rw [List.take_add_one]; simp [hk]

set_option maxRecDepth 100000 in
set_option maxHeartbeats 1000000 in
theorem dev_read (b : Nat) (m : DevM) (hm : m.Ok) (n : Int) (R : List HP) (w : World) (H : own w (devAt b m :: R)) :
    Calls Try.prog 53 #[.pointer (some ⟨b, 0, none⟩), .int .i64 n] w fun e w' => e = .returned (if n < 0 ∨ (m.fl.length : Int) ≤ n then .tuple #[.string ByteArray.empty, errV 1] else .tuple #[.string (m.seen n), .nilIface]) ∧ w = w' := by
  obtain ⟨vf, vp, h⟩ := dev_open H
  have hl1 := hm.n
  have hl2 := hm.p
  obtain ⟨af, gf, cf, rfl, f1, f2, f3, f4, f5, f6, f7⟩ := own_row_form 1 h rfl
  obtain ⟨ap, gp, cp, rfl, p1, p2, p3, p4, p5, p6, p7⟩ := own_row_form 2 h rfl
  obtain ⟨c, f⟩ := own_cells 0 h rfl
  by_cases hn : n < 0 ∨ (m.fl.length : Int) ≤ n
  · simp only [hn, if_true]
    clear f4 f5 f6 f7 p3 p4 p5 p6 p7 f3
    go_enter Try.func53, Try.ntmps53
    by_cases h0 : n < 0
    · go_wp2
      all_goals go_ret2
      all_goals exact ⟨rfl, rfl⟩
    · have hn' : (m.fl.length : Int) ≤ n := by omega
      go_wp2
      all_goals go_ret2
      all_goals exact ⟨rfl, rfl⟩
  · simp only [hn, if_false]
    have h1 : 0 ≤ n := by omega
    have h2 : n < m.fl.length := by omega
    obtain ⟨k, rfl⟩ := Int.eq_ofNat_of_zero_le h1
    have cl : w.cell? ⟨gf, k, none⟩ = some (.string (m.fl.getD k ByteArray.empty)) := f6 k _ (strCells_get (by omega))
    have hp : ∀ i, i < m.pend.length → w.cell? ⟨gp, i * 2, none⟩ = some (.int .i64 (m.pend.getD i (0, ByteArray.empty)).1) ∧ w.cell? ⟨gp, i * 2 + 1, none⟩ = some (.string (m.pend.getD i (0, ByteArray.empty)).2) := fun i hi => ⟨p6 _ _ (pendCells_get hi).1, p6 _ _ (pendCells_get hi).2⟩
    obtain rfl := f3 (by omega)
    have P3 := Lib.hid p3
    have HP := Lib.hid hp
    clear f4 f5 f6 f7 p3 p4 p5 p6 p7 f3 hp
    go_enter Try.func53, Try.ntmps53
    go_wp2
    go_loop [6] (fun i => ∃ q : Nat, q ≤ m.pend.length ∧ i = .int .i64 ((q : Int) - 1) ∧ ∀ j, q ≤ j → j < m.pend.length → (m.pend.getD j (0, ByteArray.empty)).1 ≠ (k : Int)) (fun i => (intOf i + 1).toNat)
    case atStart => exact ⟨m.pend.length, Nat.le_refl _, by go_num, fun j h1 h2 => absurd h1 (by omega)⟩
    case round =>
      obtain ⟨q, hq, rfl, hj⟩ := hrel
      have HJ := Lib.hid hj
      clear hj
      cases q with
      | zero =>
        go_wp2
        go_ret2
        refine ⟨?_, rfl⟩
        rw [DevM.seen, seen_back (k := 0) (Nat.zero_le _) fun j h1 h2 => HJ.out j h1 h2]
        rfl
      | succ q =>
        obtain rfl := P3.out (by omega)
        obtain ⟨c1, c2⟩ := HP.out q (by omega)
        have hseen : m.seen (k : Int) = if (m.pend.getD q (0, ByteArray.empty)).1 = (k : Int) then (m.pend.getD q (0, ByteArray.empty)).2 else m.seen k := by
          split
          · rename_i he
            rw [DevM.seen, seen_back (k := q + 1) (by omega) fun j h1 h2 => HJ.out j h1 h2, take_succ_getD (0, ByteArray.empty) (by omega), List.foldl_append]
            simp only [List.foldl_cons, List.foldl_nil]
            rw [if_pos he]
          · rfl
        have HS := Lib.hid hseen
        clear hseen
        generalize hx : m.pend.getD q (0, ByteArray.empty) = x at *
        have HX := Lib.hid hx
        clear hx
        have e1 : ((q + 1 : Nat) : Int) - 1 = (q : Int) := by omega
        rw [e1]
        clear e1
        by_cases he : x.1 = (k : Int)
        · have hse := HS.out
          rw [if_pos he] at hse
          have HSE := Lib.hid hse
          clear hse
          go_wp2
          go_ret2
          exact ⟨by rw [HSE.out]; rfl, rfl⟩
        · go_wp2
          go_round
          case rel => exact ⟨q, by omega, by go_num, fun j h1 h2 => by
            by_cases e : j = q
            · subst e; rw [HX.out]; exact he
            · exact HJ.out j (by omega) h2⟩
          case measure => simp [intOf]

theorem elem_write : Elem Try.prog 137 2 24 (.agg #[.int .i64 0, .string ByteArray.empty]) := by unfold Elem; kernel_rfl
end Go.Proofs.Ytbpblokfiajpjaa
