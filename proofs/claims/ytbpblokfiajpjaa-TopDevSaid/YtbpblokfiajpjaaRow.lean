/- Rows of elements that a call owns, in the separation logic: append, make, and what lies below a call. No conditions. -/
import Derived.Test.YtbpblokfiajpjaaSL
import Derived.Laws.AppendOwn
import Derived.OwnWalk
import Derived.Lib.Hide
namespace Go.SL
open Go.RowKit

/-- a slice that owns its row: n elements of sz cells; the cells are xs -/
def row (e : TypeId) (sz : Nat) (v : Value) (n : Nat) (xs : List Value) : HP := fun h =>
  xs.length = n * sz ∧ ((v = .slice none 0 0 ∧ n = 0 ∧ emp h) ∨
    ∃ g cap cur, v = .slice (some ⟨g, 0, none⟩) n cap ∧ n ≤ cap ∧ cap ≤ maxLen ∧ cur.size = cap * sz ∧ cur.toList.take (n * sz) = xs ∧ pts g (.cells cur e (0, 0)) h)

theorem row_nil (e : TypeId) (sz : Nat) {h : Hp} (hh : emp h) : row e sz (.slice none 0 0) 0 [] h := ⟨by simp, .inl ⟨rfl, rfl, hh⟩⟩

theorem own_row_nil {w : World} {L : List HP} (e : TypeId) (sz : Nat) (H : own w L) : own w (row e sz (.slice none 0 0) 0 [] :: L) :=
  own_mono (l := L) (fun h hh => ⟨fun _ => none, h, fun _ => .inl ⟨rfl, rfl⟩, row_nil e sz (fun _ => rfl), hh⟩) H

theorem own_row_of {w : World} {L : List HP} (k : Nat) {g cap n sz : Nat} {cur : Array Value} {e : TypeId} {xs : List Value} (H : own w L) (hk : L[k]? = some (pts g (.cells cur e (0, 0))))
    (hn : n ≤ cap) (hc : cap ≤ maxLen) (hs : cur.size = cap * sz) (ht : cur.toList.take (n * sz) = xs) : own w (L.set k (row e sz (.slice (some ⟨g, 0, none⟩) n cap) n xs)) := by
  refine own_weak k (fun h hh => ⟨?_, .inr ⟨g, cap, cur, rfl, hn, hc, hs, ht, hh⟩⟩) H hk
  rw [← ht, List.length_take, Array.length_toList, hs]
  exact Nat.min_eq_left (Nat.mul_le_mul_right _ hn)

/-- what a row lets be seen: nil, or the cells of its block -/
theorem own_row {w : World} {L : List HP} (k : Nat) {e : TypeId} {sz : Nat} {v : Value} {n : Nat} {xs : List Value} (H : own w L) (hk : L[k]? = some (row e sz v n xs)) :
    xs.length = n * sz ∧ ((v = .slice none 0 0 ∧ n = 0) ∨
    ∃ g cap cur, v = .slice (some ⟨g, 0, none⟩) n cap ∧ n ≤ cap ∧ cap ≤ maxLen ∧ cur.size = cap * sz ∧ cur.toList.take (n * sz) = xs ∧ own w (L.set k (pts g (.cells cur e (0, 0))))) := by
  obtain ⟨h, hs, h1, h2, a, ⟨hl, p⟩, q⟩ := own_pick k H hk
  refine ⟨hl, ?_⟩
  rcases p with ⟨rfl, rfl, _⟩ | ⟨g, cap, cur, rfl, c1, c2, c3, c4, c5⟩
  · exact .inl ⟨rfl, rfl⟩
  · exact .inr ⟨g, cap, cur, rfl, c1, c2, c3, c4, own_put H k hk ⟨h, hs, h1, h2, a, c5, q⟩⟩

/-- the form of a row's value -/
theorem own_row_form {w : World} {L : List HP} (k : Nat) {e : TypeId} {sz : Nat} {v : Value} {n : Nat} {xs : List Value} (H : own w L) (hk : L[k]? = some (row e sz v n xs)) :
    ∃ ao g cap, v = .slice ao n cap ∧ n ≤ cap ∧ cap ≤ maxLen ∧ (0 < n → ao = some ⟨g, 0, none⟩) ∧ (ao = none → n = 0 ∧ cap = 0) ∧ (∀ x, ao = some x → x = ⟨g, 0, none⟩) ∧
      (∀ j u, xs[j]? = some u → w.cell? ⟨g, j, none⟩ = some u) ∧ (ao ≠ none → ∀ j, w.frozen? ⟨g, j, none⟩ = false) := by
  obtain ⟨hl, ⟨rfl, rfl⟩ | ⟨g, cap, cur, rfl, h1, h2, h3, h4, h5⟩⟩ := own_row k H hk
  · have hx : xs = [] := List.eq_nil_of_length_eq_zero (by simpa using hl)
    subst hx
    exact ⟨none, 0, 0, rfl, Nat.le_refl _, by simp [maxLen], fun h => absurd h (by simp), fun _ => ⟨rfl, rfl⟩, (fun x h => by cases h), (fun j u h => by simp at h), fun h => absurd rfl h⟩
  · have hk' : (L.set k (pts g (.cells cur e (0, 0))))[k]? = some (pts g (.cells cur e (0, 0))) := by
      have := (List.getElem?_eq_some_iff.1 hk).1
      simp [this]
    obtain ⟨hc, hf⟩ := own_cells k h5 hk'
    refine ⟨_, g, cap, rfl, h1, h2, fun _ => rfl, (fun h => by cases h), (fun x h => by cases h; rfl), fun j u hu => ?_, fun _ => hf⟩
    rw [hc, ← Array.getElem?_toList]
    rw [← h4, List.getElem?_take] at hu
    split at hu
    · exact hu
    · cases hu

theorem own_below {w w' : World} {L : List HP} (H : own w L) (hb : Below w.heap.size w w') : own w' L := by
  obtain ⟨h, hs, H⟩ := H
  refine ⟨h, fun b => ?_, H⟩
  rcases hs b with x | x
  · exact .inl x
  · by_cases hlt : b < w.heap.size
    · exact .inr (by rw [x]; exact (hb.block b hlt).symm)
    · left; rw [x]; simp [hpOf]; omega
theorem ext_below {w w' : World} (hb : Below w.heap.size w w') : Ext w w' := ⟨hb.os, hb.tape, hb.output, hb.size⟩

/-- old blocks as they were, one new block -/
theorem own_new {w w' : World} {L : List HP} {o : Obj} (H : own w L) (hold : ∀ b, b < w.heap.size → w'.heap[b]? = w.heap[b]?) (hnew : w'.heap[w.heap.size]? = some o) : own w' (pts w.heap.size o :: L) := by
  obtain ⟨h, hs, H⟩ := H
  have hn : h w.heap.size = none := by
    rcases hs w.heap.size with x | x
    · exact x
    · rw [x]; simp [hpOf]
  refine ⟨fun c => if c = w.heap.size then some o else h c, fun c => ?_, fun c => if c = w.heap.size then some o else none, h, fun c => ?_, ⟨by simp, fun c hc => by simp [hc]⟩, H⟩
  · by_cases hc : c = w.heap.size
    · subst hc; simp [hpOf, hnew]
    · simp only [hc, if_false]
      rcases hs c with x | x
      · exact .inl x
      · by_cases hlt : c < w.heap.size
        · exact .inr (by rw [x]; exact (hold c hlt).symm)
        · left; rw [x]; simp [hpOf]; omega
  · by_cases hc : c = w.heap.size
    · subst hc; exact .inr ⟨hn, by simp⟩
    · exact .inl ⟨by simp [hc], by simp [hc]⟩

/-- an element type's row of the table -/
def Elem (P : Program) (e : TypeId) (sz bytes : Nat) (z : Value) : Prop := (P.info? e).map (fun i => (i.zero, i.size, i.bytes)) = some (some z, sz, bytes)

section
variable {P : Program}
theorem run_append_row {w : World} {L : List HP} (k : Nat) (t ty e : TypeId) {sz bytes : Nat} {z : Value} (ht : P.underlying t = some (.slice e)) (he : Elem P e sz bytes z) (hzs : z.cells.size = sz) (hsz : 0 < sz)
    {v : Value} {n : Nat} {xs : List Value} (H : own w L) (hk : L[k]? = some (row e sz v n xs))
    (ao : Option Addr) (m c : Nat) (news : List Value) (hl : news.length = m * sz) (hnews : ∀ ad, ao = some ad → ∀ j u, news[j]? = some u → w.cell? (ad.add j) = some u) (hnone : ao = none → m = 0) (h1 : ∀ u ∈ news, u.oneCell' = true)
    (h63 : n + m ≤ maxLen) (hbytes : (n + m) * bytes ≤ 140737488355328) :
    ∃ v' w', (Builtin.append_ #[t, t] ty #[v, .slice ao m c]).run P w = .ok v' w' ∧ own w' (L.set k (row e sz v' (n + m) (xs ++ news))) ∧ Ext w w' := by
  obtain ⟨i, hi, hz, rfl, rfl⟩ := info_parts he
  obtain ⟨hlen, hv⟩ := own_row k H hk
  have hkl : k < L.length := (List.getElem?_eq_some_iff.1 hk).1
  have hlen' : (xs ++ news).length = (n + m) * i.size := by rw [List.length_append, hlen, hl, Nat.add_mul]
  have h63' : n + m ≤ 9223372036854775807 := by simp only [maxLen] at h63; omega
  -- the grown world
  have grown : ∀ (old : Nat), old < n + m → own (w.drew.alloc (.cells (xs.toArray ++ news.toArray ++ Builtin.zeroCells z.cells (grownCap w (n + m) old e - (n + m))) e))
      (L.set k (row e i.size (.slice (some ⟨w.heap.size, 0, none⟩) (n + m) (grownCap w (n + m) old e)) (n + m) (xs ++ news))) := by
    intro old _
    have hge := grownCap_ge w (n + m) old e
    have hcm := grownCap_le_maxLen w (n + m) old e h63
    have h2 := own_alloc (own_erase k (own_drew H) hk) (.cells (xs.toArray ++ news.toArray ++ Builtin.zeroCells z.cells (grownCap w (n + m) old e - (n + m))) e)
    have h3 := own_row_of 0 (n := n + m) (cap := grownCap w (n + m) old e) (sz := i.size) (xs := xs ++ news) h2 rfl hge hcm (by
      simp only [Array.size_append, List.size_toArray, size_zeroCells, hzs, hlen, hl, ← Nat.add_mul]
      congr 1
      omega) (by
      simp only [Array.toList_append, List.append_assoc]
      rw [← List.append_assoc, ← hlen']
      exact List.take_left)
    exact own_put H k hk h3
  cases ao with
  | none =>
    obtain rfl := hnone rfl
    have hn : news = [] := List.eq_nil_of_length_eq_zero (by simpa using hl)
    subst hn
    have hset : own w (L.set k (row e i.size v (n + 0) (xs ++ []))) := by
      rw [Nat.add_zero, List.append_nil]
      exact own_put H k hk (own_pick k H hk)
    refine ⟨v, w, ?_, hset, Ext.refl _⟩
    rcases hv with ⟨rfl, rfl⟩ | ⟨g, cap, cur, rfl, c1, c2, c3, c4, c5⟩
    · simp [Builtin.append_, run_underlying ht, sizeOf, typeInfo, hi, Builtin.lenOf, Builtin.firstCells]
    · simp [Builtin.append_, run_underlying ht, sizeOf, typeInfo, hi, Builtin.lenOf, Builtin.firstCells, c1, storeCells]
  | some a =>
    have hnews' := hnews a rfl
    rcases hv with ⟨rfl, rfl⟩ | ⟨g, cap, cur, rfl, c1, c2, c3, c4, c5⟩
    · have hx : xs = [] := List.eq_nil_of_length_eq_zero (by simpa using hlen)
      subst hx
      by_cases hm : m = 0
      · subst hm
        have hn : news = [] := List.eq_nil_of_length_eq_zero (by simpa using hl)
        subst hn
        refine ⟨.slice none 0 0, w, ?_, own_put H k hk (own_pick k H hk), Ext.refl _⟩
        simp [Builtin.append_, run_underlying ht, sizeOf, typeInfo, hi, Builtin.lenOf, Builtin.firstCells, loadCells, loadCellsFrom]
      · have hr := run_append_nil (P := P) w t ty e i z ht hi hz a m c news hl hnews' (by omega) (by omega) (by have hb := hbytes; simp only [Nat.zero_add] at hb; omega)
        have hg := grown 0 (by omega)
        simp only [Nat.zero_add, List.nil_append, Array.empty_append] at hg ⊢
        exact ⟨_, _, hr, hg, (Ext.refl _).drew.alloc _⟩
    · have hk' : (L.set k (pts g (.cells cur e (0, 0))))[k]? = some (pts g (.cells cur e (0, 0))) := by simp [hkl]
      have hg := own_at k c5 hk'
      by_cases hroom : n + m ≤ cap
      · have hfit : n * i.size + news.length ≤ cur.size := by rw [hl, c3, ← Nat.add_mul]; exact Nat.mul_le_mul_right _ hroom
        have hr := run_append_room (P := P) w t ty e i ht hi g n cap cur hg a m c news hl hnews' h1 hroom hfit
        refine ⟨_, _, hr, ?_, ⟨rfl, rfl, rfl, by simp [World.setRow]⟩⟩
        have hu : own (w.setRow g (cur.toList.take (n * i.size) ++ news ++ cur.toList.drop (n * i.size + news.length)).toArray) _ := own_upd k (o' := .cells (cur.toList.take (n * i.size) ++ news ++ cur.toList.drop (n * i.size + news.length)).toArray e (0, 0)) c5 hk' (by
          funext x
          by_cases hx : x = g
          · subst hx; simp only [if_true]; exact setRow_heap w x cur _ e _ hg
          · simp only [hx, if_false]; exact setRow_other w g x _ hx)
        have hk2 : ((L.set k (pts g (.cells cur e (0, 0)))).set k (pts g (.cells (cur.toList.take (n * i.size) ++ news ++ cur.toList.drop (n * i.size + news.length)).toArray e (0, 0))))[k]? =
            some (pts g (.cells (cur.toList.take (n * i.size) ++ news ++ cur.toList.drop (n * i.size + news.length)).toArray e (0, 0))) := by simp [hkl]
        have h3 := own_row_of k (n := n + m) (cap := cap) (sz := i.size) (xs := xs ++ news) hu hk2 hroom c2 (by
          simp only [List.size_toArray, List.length_append, List.length_take, List.length_drop, Array.length_toList]
          omega) (by
          rw [c4, ← hlen']
          exact List.take_left)
        simpa only [List.set_set] using h3
      · have holds : ∀ j u, xs[j]? = some u → w.cell? ((⟨g, 0, none⟩ : Addr).add j) = some u := fun j u hu => by
          have hadd : (⟨g, 0, none⟩ : Addr).add j = ⟨g, j, none⟩ := by unfold Addr.add; split <;> simp_all
          rw [hadd, (own_cells k c5 hk').1, ← Array.getElem?_toList]
          rw [← c4, List.getElem?_take] at hu
          split at hu
          · exact hu
          · cases hu
        have hr := run_append_grow (P := P) w t ty e i z ht hi hz ⟨g, 0, none⟩ n cap xs hlen holds a m c news hl hnews' (by omega) (by omega) (growslice_fits (by omega) hbytes)
        exact ⟨_, _, hr, grown cap (by omega), (Ext.refl _).drew.alloc _⟩

/-- append as an operation of the walk -/
theorem wp_append_row {w : World} {L : List HP} {o : Oper} {a : Act} {K : Act → World → Prop} {Q : Exit → Act → World → Prop} (s x : Operand) (t : TypeId)
    (ho : o.op = .call { callee := .builtin .append, args := #[s, x], argTypes := #[t, t] })
    (k : Nat) (e : TypeId) {sz bytes : Nat} {z : Value} (ht : P.underlying t = some (.slice e)) (he : Elem P e sz bytes z) (hzs : z.cells.size = sz) (hsz : 0 < sz)
    {v : Value} {n : Nat} {xs : List Value} (hs : a.eval s = v) (H : own w L) (hk : L[k]? = some (row e sz v n xs))
    (ao : Option Addr) (m c : Nat) (news : List Value) (hx : a.eval x = .slice ao m c) (hl : news.length = m * sz) (hnews : ∀ ad, ao = some ad → ∀ j u, news[j]? = some u → w.cell? (ad.add j) = some u) (hnone : ao = none → m = 0) (h1 : ∀ u ∈ news, u.oneCell' = true)
    (h63 : n + m ≤ maxLen) (hbytes : (n + m) * bytes ≤ 140737488355328)
    (h : ∀ v' w', own w' (L.set k (row e sz v' (n + m) (xs ++ news))) → Ext w w' → K (a.put o.dst v') w') : o.wp P a w K Q := by
  obtain ⟨v', w', hr, h2, h3⟩ := run_append_row (P := P) k t o.type e ht he hzs hsz H hk ao m c news hl hnews hnone h1 h63 hbytes
  unfold Oper.wp execOp
  simp only [ho, resolve, invoke, builtin, Sem.run_bind, Sem.run_pure, Result.andThen_ok, List.map_toArray, List.map_cons, List.map_nil, hs, hx, hr]
  exact h v' w' h2 h3

theorem wpList_append_row {w : World} {L : List HP} {ops : Array Oper} {rest : List Oper} {o : Oper} {a : Act} {Q : Exit → Act → World → Prop} (hgd : o.guard = none) (s x : Operand) (t : TypeId)
    (ho : o.op = .call { callee := .builtin .append, args := #[s, x], argTypes := #[t, t] })
    (k : Nat) (e : TypeId) {sz bytes : Nat} {z : Value} (ht : P.underlying t = some (.slice e)) (he : Elem P e sz bytes z) (hzs : z.cells.size = sz) (hsz : 0 < sz)
    {v : Value} {n : Nat} {xs : List Value} (hs : a.eval s = v) (H : own w L) (hk : L[k]? = some (row e sz v n xs))
    (ao : Option Addr) (m c : Nat) (news : List Value) (hx : a.eval x = .slice ao m c) (hl : news.length = m * sz) (hnews : ∀ ad, ao = some ad → ∀ j u, news[j]? = some u → w.cell? (ad.add j) = some u) (hnone : ao = none → m = 0) (h1 : ∀ u ∈ news, u.oneCell' = true)
    (h63 : n + m ≤ maxLen) (hbytes : (n + m) * bytes ≤ 140737488355328)
    (h : ∀ v' w', own w' (L.set k (row e sz v' (n + m) (xs ++ news))) → Ext w w' → wpList P ops Q rest (a.put o.dst v') w') : wpList P ops Q (o :: rest) a w :=
  wpList_plain hgd fun _ hK => wp_append_row s x t ho k e ht he hzs hsz hs H hk ao m c news hx hl hnews hnone h1 h63 hbytes fun v' w' h2 h3 => hK _ _ (h v' w' h2 h3)

/-- append as a step of a region that draws -/
theorem step_append_row {w : World} {L : List HP} {ops : Array Oper} {o : Oper} {a : Act} {K : Act → World → Prop} {Q : Exit → Act → World → Prop} {E : Prop} (hgd : o.guard = none) (s x : Operand) (t : TypeId)
    (ho : o.op = .call { callee := .builtin .append, args := #[s, x], argTypes := #[t, t] })
    (k : Nat) (e : TypeId) {sz bytes : Nat} {z : Value} (ht : P.underlying t = some (.slice e)) (he : Elem P e sz bytes z) (hzs : z.cells.size = sz) (hsz : 0 < sz)
    {v : Value} {n : Nat} {xs : List Value} (hs : a.eval s = v) (H : own w L) (hk : L[k]? = some (row e sz v n xs))
    (ao : Option Addr) (m c : Nat) (news : List Value) (hx : a.eval x = .slice ao m c) (hl : news.length = m * sz) (hnews : ∀ ad, ao = some ad → ∀ j u, news[j]? = some u → w.cell? (ad.add j) = some u) (hnone : ao = none → m = 0) (h1 : ∀ u ∈ news, u.oneCell' = true)
    (h63 : n + m ≤ maxLen) (hbytes : (n + m) * bytes ≤ 140737488355328)
    (h : ∀ v' w', own w' (L.set k (row e sz v' (n + m) (xs ++ news))) → Ext w w' → K (a.put o.dst v') w') : if Region.wanted o (yielded ops a.tmps) = true then Oper.wp P o a w K Q else E := by
  rw [if_pos (by simp [Region.wanted, hgd])]
  exact wp_append_row s x t ho k e ht he hzs hsz hs H hk ao m c news hx hl hnews hnone h1 h63 hbytes h

/-- make([]T, n) -/
theorem wpList_make_row {w : World} {L : List HP} {ops : Array Oper} {rest : List Oper} {o : Oper} {a : Act} {Q : Exit → Act → World → Prop}
    (hg : o.guard = none) (l c : Operand) (t : TypeId) (hop : o.op = Op.makeSlice t l c)
    (e : TypeId) {sz bytes : Nat} {z : Value} (ht : P.underlying t = some (.slice e)) (he : Elem P e sz bytes z) (hzs : z.cells.size = sz)
    (kl kc : IntKind) (n : Nat) (hl : a.eval l = .int kl (n : Int)) (hc : a.eval c = .int kc (n : Int)) (b2 : bytes * n ≤ 281474976710656) (b3 : n ≤ maxLen) (H : own w L)
    (hK : ∀ w', own w' (row e sz (.slice (some ⟨w.heap.size, 0, none⟩) n n) n (madeCells z.cells (n * sz)).toList :: L) → Ext w w' → wpList P ops Q rest (a.put o.dst (.slice (some ⟨w.heap.size, 0, none⟩) n n)) w') :
    wpList P ops Q (o :: rest) a w := by
  obtain ⟨i, hi, hz, rfl, rfl⟩ := info_parts he
  refine wpList_make_full w hg l c t hop w.heap.size e i z i.size ht hi hz rfl kl kc _ _ n hl hc rfl rfl b2 b3 (Nat.le_refl _) fun w' hown hgr => ?_
  refine hK w' ?_ ⟨hgr.os, hgr.tape, hgr.output, hgr.size⟩
  obtain ⟨hlen, hv⟩ := hown
  rcases hv with ⟨hv, _⟩ | ⟨g, cap, cur, hv, hb, hg', c1, c2, c3, c4⟩
  · cases hv
  · simp only [Value.slice.injEq, Option.some.injEq, Addr.mk.injEq, and_true, true_and] at hv
    obtain ⟨rfl, rfl⟩ := hv
    exact own_row_of 0 (own_new H (fun b hb => hgr.block b hb (by simp)) hg') rfl c1 c2 c3 c4
end
end Go.SL
