/- append onto a row of the call's own, whatever the source. -/
import Derived.Test.YtlkpnpbodbokkaaDoorData
import Derived.Maps.AppendAt
import Derived.Deep.AppendLies
namespace Go.Bs
open Go.RowKit
set_option linter.unusedVariables false
section
variable {P : Program} {w : World}

/-- What a slice value's cells are, up to its length. -/
def Src (w : World) (A : Option Addr) (m sz : Nat) (news : List Value) : Prop :=
  news.length = m * sz ∧ (m = 0 ∨ ∃ b o, A = some ⟨b, o, none⟩ ∧ ∀ j u, news[j]? = some u → w.cell? ⟨b, o + j, none⟩ = some u)

theorem run_append_nilsrc (base : Nat) (t ty e : TypeId) (i : TypeInfo) (size : Nat) (ht : P.underlying t = some (.slice e)) (hi : P.info? e = some i)
    (v : Value) (n : Nat) (xs : List Value) (hown : w.ownsRow base e size v n xs) (c : Nat) : (Builtin.append_ #[t, t] ty #[v, .slice none 0 c]).run P w = .ok v w := by
  rcases hown.2 with ⟨rfl, rfl⟩ | ⟨g, cap, cur, rfl, _, _, hnc, _⟩
  · simp [Builtin.append_, run_underlying ht, sizeOf, typeInfo, hi, Builtin.lenOf, Builtin.firstCells]
  · simp [Builtin.append_, run_underlying ht, sizeOf, typeInfo, hi, Builtin.lenOf, Builtin.firstCells, hnc, storeCells]

theorem add_plain (b o j : Nat) : (⟨b, o, none⟩ : Addr).add j = ⟨b, o + j, none⟩ := by
  unfold Addr.add
  split
  · rename_i h; subst h; rfl
  · rfl

theorem run_append_src (base : Nat) (t ty e : TypeId) (i : TypeInfo) (z : Value) (size bytes : Nat) (ht : P.underlying t = some (.slice e)) (hi : P.info? e = some i) (hz : i.zero = some z)
    (hsize : i.size = size) (hby : i.bytes = bytes) (hzs : z.cells.size = size) (hsz : 0 < size)
    (v : Value) (n : Nat) (xs : List Value) (hown : w.ownsRow base e size v n xs) (A : Option Addr) (m c : Nat) (news : List Value) (hs : Src w A m size news) (h1 : ∀ u ∈ news, u.oneCell' = true)
    (h63 : n + m ≤ maxLen) (hbytes : (n + m) * bytes ≤ 140737488355328) (hbase : base ≤ w.heap.size) :
    ∃ v' w', (Builtin.append_ #[t, t] ty #[v, .slice A m c]).run P w = .ok v' w' ∧ w'.ownsRow base e size v' (n + m) (xs ++ news) ∧ w.grownBy w' v.ownBlock ∧ (v'.ownBlock = v.ownBlock ∨ v'.ownBlock = some w.heap.size) := by
  obtain ⟨hl, hs⟩ := hs
  rcases A with _ | ad
  · have hm : m = 0 := by
      rcases hs with h | ⟨b, o, h, _⟩
      · exact h
      · cases h
    subst hm
    have hn : news = [] := List.eq_nil_of_length_eq_zero (by simpa using hl)
    subst hn
    exact ⟨v, w, run_append_nilsrc base t ty e i size ht hi v n xs hown c, by simpa using hown, World.grownBy.refl w _, .inl rfl⟩
  · have hcells : ∀ j u, news[j]? = some u → w.cell? (ad.add j) = some u := by
      intro j u hu
      rcases hs with h | ⟨b, o, h, hc⟩
      · subst h
        have hn : news = [] := List.eq_nil_of_length_eq_zero (by simpa using hl)
        subst hn
        simp at hu
      · injection h with h
        subst h
        rw [add_plain]; exact hc j u hu
    obtain ⟨v', w', hrun, h2, h3, _, h5⟩ := run_append_own_at (P := P) w base t ty e i z size bytes ht hi hz hsize hby hzs hsz v n xs hown ad m c news hl hcells h1 h63 hbytes hbase
    exact ⟨v', w', hrun, h2, h3, h5⟩

theorem wpList_append_src {ops : Array Oper} {rest : List Oper} {o : Oper} {a : Act} {Q : Exit → Act → World → Prop} (hgd : o.guard = none) (s x : Operand) (t : TypeId)
    (ho : o.op = .call { callee := .builtin .append, args := #[s, x], argTypes := #[t, t] })
    (base : Nat) (e : TypeId) (i : TypeInfo) (z : Value) (size bytes : Nat) (ht : P.underlying t = some (.slice e)) (hi : P.info? e = some i) (hz : i.zero = some z)
    (hsize : i.size = size) (hby : i.bytes = bytes) (hzs : z.cells.size = size) (hsz : 0 < size)
    (v : Value) (n : Nat) (xs : List Value) (hs : a.eval s = v) (hown : w.ownsRow base e size v n xs)
    (A : Option Addr) (m c : Nat) (news : List Value) (hx : a.eval x = .slice A m c) (hsrc : Src w A m size news) (h1 : ∀ u ∈ news, u.oneCell' = true)
    (h63 : n + m ≤ maxLen) (hbytes : (n + m) * bytes ≤ 140737488355328) (hbase : base ≤ w.heap.size)
    (h : ∀ v' w', w'.ownsRow base e size v' (n + m) (xs ++ news) → w.grownBy w' v.ownBlock → (v'.ownBlock = v.ownBlock ∨ v'.ownBlock = some w.heap.size) → wpList P ops Q rest (a.put o.dst v') w') : wpList P ops Q (o :: rest) a w :=
  wpList_plain hgd fun _ hK => by
    obtain ⟨v', w', hrun, h2, h3, h4⟩ := run_append_src (P := P) base t o.type e i z size bytes ht hi hz hsize hby hzs hsz v n xs hown A m c news hsrc h1 h63 hbytes hbase
    unfold Oper.wp execOp
    simp only [ho, resolve, invoke, builtin, Sem.run_bind, Sem.run_pure, Result.andThen_ok, List.map_toArray, List.map_cons, List.map_nil, hs, hx, hrun]
    exact hK _ _ (h v' w' h2 h3 h4)

def byteCells (l : List UInt8) : List Value := l.map fun b => .int .u8 (b.toNat : Int)
theorem byteCells_one (l : List UInt8) : ∀ u ∈ byteCells l, u.oneCell' = true := by
  intro u hu
  obtain ⟨b, _, rfl⟩ := List.mem_map.1 hu
  rfl
theorem src_bytes {S : Nat → Prop} {a : Option Addr} {n c : Nat} {l : List UInt8} (h : rBytes.r S w [.slice a n c] l) : Src w a l.length 1 (byteCells l) := by
  refine ⟨by simp [byteCells], ?_⟩
  rcases l with _ | ⟨x, l⟩
  · exact .inl rfl
  · right
    obtain ⟨b, o, e, _⟩ := byte_at h (i := 0) (by simp)
    refine ⟨b, o, e, fun j u hu => ?_⟩
    have hj : j < (x :: l).length := by
      have := (List.getElem?_eq_some_iff.1 hu).1
      simpa [byteCells] using this
    obtain ⟨b', o', e', _, hc⟩ := byte_at h hj
    rw [e] at e'
    simp at e'
    obtain ⟨rfl, rfl⟩ := e'
    have : u = .int .u8 (((x :: l)[j]).toNat : Int) := by
      simp only [byteCells, List.getElem?_map, List.getElem?_eq_getElem hj, Option.map_some, Option.some.injEq] at hu
      exact hu.symm
    rw [this]; exact hc

/-- An owned row of bytes reads as those bytes. -/
theorem own_bytes {base : Nat} {e : TypeId} {v : Value} {l : List UInt8} {n : Nat} (hn : n = l.length) (h : w.ownsRow base e 1 v n (byteCells l)) : rBytes.r (· < w.heap.size) w [v] l := by
  subst hn
  rcases h.2 with ⟨rfl, h0⟩ | ⟨g, cap, cur, rfl, hbg, hg, hn, hc, hcur, hx⟩
  · have : l = [] := List.eq_nil_of_length_eq_zero h0
    subst this
    exact rSl_mk rfl (Nat.le_refl _) (Nat.zero_le _) (.inl rfl)
  · refine rSl_mk rfl hn hc (.inr ⟨g, 0, rfl, Blk.lt hg, fun i x hi => ⟨[.int .u8 (x.toNat : Int)], rfl, fun j v hj => ?_, rfl⟩⟩)
    have hj0 : j = 0 := by
      rcases j with _ | j
      · rfl
      · simp at hj
    subst hj0
    simp at hj
    subst hj
    have hi' : i < l.length := (List.getElem?_eq_some_iff.1 hi).1
    rw [Nat.zero_add, Nat.mul_one, Nat.add_zero, Blk.cell hg i]
    have e1 : cur[i]? = (cur.toList.take (l.length * 1))[i]? := by
      rw [List.getElem?_take, if_pos (by omega)]; simp
    rw [e1, hx, byteCells, List.getElem?_map, hi]; rfl
end
end Go.Bs
