/- This text proves a part of the laws of seat YtdeihieblljfcaaDoor, under no condition: E2d. -/
import Derived.Test.YtdeihieblljfcaaDoorEL
set_option linter.unusedVariables false
set_option linter.unusedSimpArgs false
set_option maxRecDepth 100000
/-! Numbers read of texts; zeros ahead. -/
namespace Go.V.YtdeihieblljfcaaDoor
open Go Go.V Go.Lib Go.Proofs

theorem c25 {l : List UInt8} (hl : l.length ≤ 281474976710656) {h : Heap} (D : Door h) {R : Int → Value → Heap → Prop}
    (k : ∀ (u : Nat) e h', Ext0 h h' → u < 18446744073709551616 → ((parseUintB 64 l = .ok u ∧ e = .nilIface) ∨ ((∀ u, parseUintB 64 l ≠ .ok u) ∧ ∃ t v, e = .iface t v)) → R u e h') :
    Call Tryd.prog 25 [.lf (.str (tx l)), .lf (.int .i64 10), .lf (.int .i64 64)] h [.one (.int .u64), .one .raw] R := by
  intro W hW
  subst hW
  have hs : (tx l).size ≤ 281474976710656 := by rw [tx_size]; exact hl
  obtain ⟨tp, p, t0, f0, h0⟩ := D.syn
  obtain ⟨tq, q, t1, f1, h1⟩ := D.rng
  cases hp : parseUintB 64 l
  · rename_i u
    have hu : u < 18446744073709551616 := by have := parseUintB_le hp; omega
    refine (Any.strconv_ParseUint_10_at64_ok lays14 (tx l) (by omega) u (by rw [tx_list]; exact hp) W).mono fun e W' ⟨he, hw⟩ => ?_
    have hb : RowKit.Below W.heap.size W W' := by
      rcases hw with rfl | rfl
      · exact RowKit.Below.refl _ _
      · exact bytesWorld_below _ _ _
    exact ⟨out_below hb, (u : Int), Value.nilIface, he, k u _ _ (ext_below hb) hu (.inl ⟨hp, rfl⟩)⟩
  · refine (Any.strconv_ParseUint_10_at64_syntax_var lays14 (tx l) hs (by rw [tx_list]; exact hp) tp p W (var_of g0 h0)).mono fun e W' ⟨N, he, _, _, hb⟩ => ?_
    exact ⟨out_below hb, (0 : Int), Value.iface (lays14_ren.t 39) (.pointer (some ⟨N, 0, none⟩)), he, k 0 _ _ (ext_below hb) (by omega) (.inr ⟨fun u hu => (by rw [hp] at hu; cases hu), _, _, rfl⟩)⟩
  · refine (Any.strconv_ParseUint_10_at64_range_var lays14 (tx l) hs (by rw [tx_list]; exact hp) tq q W (var_of g1 h1)).mono fun e W' ⟨N, he, _, _, hb⟩ => ?_
    exact ⟨out_below hb, (18446744073709551615 : Int), Value.iface (lays14_ren.t 39) (.pointer (some ⟨N, 0, none⟩)), he, k 18446744073709551615 _ _ (ext_below hb) (by omega) (.inr ⟨fun u hu => (by rw [hp] at hu; cases hu), _, _, rfl⟩)⟩

/-- So many zeros. -/
def zs (k : Nat) : List UInt8 := List.replicate k 48
theorem no_head {a b : UInt8} {l p : List UInt8} (hab : a ≠ b) : ¬ ∃ r, a :: l = (b :: p) ++ r := by
  rintro ⟨r, hr⟩
  exact hab (List.cons.inj hr).1

theorem c27 {k : Nat} (hk : k < 8) {h : Heap} {R : ByteArray → Heap → Prop} (x : R (tx (zs k)) h) : Call Tryd.prog 27 [.lf (.str (tx [48])), .lf (.int .i64 (k : Int))] h [.one .str] R := by
  have x' : ∀ z, (tx (List.replicate 64 48)).extract 0 k = z → R z h := fun z hz => by
    rw [tx_extract] at hz
    rw [← hz]
    have : ((List.replicate 64 (48 : UInt8)).take k).drop 0 = zs k := by
      rw [List.drop_zero, List.take_replicate, Nat.min_eq_left (by omega)]; rfl
    rw [this]
    exact x
  refine ok27 (Br.eq (fun h0 => ?_) fun h0 => Br.eq (fun h1 => ?_) fun h1 => ?_)
  · obtain rfl : k = 0 := by omega
    exact x
  · obtain rfl : k = 1 := by omega
    exact x
  refine ⟨fun hh => hh = h, Br.dec (fun hn => by omega) fun _ => rfl, ?_⟩
  intro g0 he
  subst he
  have hz : (↑(ByteArray.size (tx [48])) : Int) = 1 := rfl
  rw [hz]
  have hw1 : IntKind.wrap .u64 1 = 1 := rfl
  rw [hw1, wu64 (n := (k : Int)) (by omega) (by omega)]
  refine c37 hk ?_
  refine ⟨fun hh => hh = g0, ⟨fun c hh => c = false ∧ hh = g0, Br.dec (fun x => by omega) fun _ => ⟨decide_eq_false (by omega), rfl⟩, ?_⟩, ?_⟩
  · rintro c g1 ⟨rfl, rfl⟩
    exact rfl
  intro g1 he
  subst he
  refine Br.eq (fun x => by omega) fun _ => ⟨by omega, by omega, ?_⟩
  have hb : bt (tx [48]) (0 : Int) = 48 := rfl
  rw [hb]
  refine ⟨fun _ => False, ⟨fun c hh => c = true ∧ hh = g1, Br.eq (fun x => by omega) fun _ => Br.eq (fun x => by omega) fun _ => Br.eq (fun _ => ⟨rfl, rfl⟩) fun x => absurd rfl x, ?_⟩, fun _ x => x.elim⟩
  rintro c g2 ⟨rfl, rfl⟩
  rw [wi64 (n := (k : Int)) (by omega) (by omega)]
  refine Br.t rfl ⟨fun c hh => c = false ∧ hh = g2, Br.dec (fun _ => c38 (p := [48]) fun b hb => ⟨?_, rfl⟩) fun x => by omega, ?_⟩
  · rw [← Bool.not_eq_true]; exact fun x => no_head (by decide) (hb.1 x)
  rintro c g3 ⟨rfl, rfl⟩
  refine Br.f rfl ⟨fun c hh => c = false ∧ hh = g3, Br.dec (fun _ => c38 (p := [48]) fun b hb => ⟨?_, rfl⟩) fun x => by omega, ?_⟩
  · rw [← Bool.not_eq_true]; exact fun x => no_head (by decide) (hb.1 x)
  rintro c g4 ⟨rfl, rfl⟩
  refine Br.f rfl ⟨fun c hh => c = true ∧ hh = g4, Br.dec (fun _ => c38 (p := [48]) fun b hb => ⟨?_, rfl⟩) fun x => by omega, ?_⟩
  · exact hb.2 ⟨_, rfl⟩
  rintro c g5 ⟨rfl, rfl⟩
  exact Br.t rfl ⟨by omega, by omega, x' _ rfl⟩

end Go.V.YtdeihieblljfcaaDoor
