/- Contracts of the rotor's Write at its four registers. Conditions: as at each lemma. -/
import Derived.Test.YtnmbkhofikbcjaaRotorVal
import Derived.Deep.DeepCutAuto
namespace Go.Proofs.Ytnmbkhofikbcjaa
open Go.RowKit Flt

set_option maxRecDepth 100000 in
set_option maxHeartbeats 16000000 in
theorem write_0 (b : Nat) (v n x : Int) (hx : 0 ≤ x ∧ x ≤ 4294967295) (w : World) (hb : RBlk w b v n) :
    Calls Try.prog 38 #[.pointer (some ⟨b, 0, none⟩), .int .i64 0, .int .u32 x] w fun e w' => e = .returned (.tuple #[]) ∧ RBlk w' b x n ∧ Upd (· = b) w w' := by
  have HB := Lib.hid hb
  have H := Lib.hid hx
  have hm : w.cell? ⟨b, 2, none⟩ = some (.bool true) := hb.cell 2 rfl
  have hlt := hb.lt
  clear hb hx
  have hm0 := run_make_mw w
  have hm1 : (Instr.makeMap 114 .none).run Try.prog w.drew = .ok (.map (some w.heap.size)) (MW w IM.none 1) := rfl
  have hin := fun m j k v h => run_insert_mw w m j k v h
  have hlk := fun m j k => run_lookup_mw w m j k
  have hdr := fun m j => MW_drew w m j
  have hn0 := fun k => IM.has_none k
  have hn1 := fun m k v i => IM.has_ins m k v i
  have qn := fun f x y w => nil_not f x y w
  have hl0 := fun k z => IM.look_none k z
  have hl1 := fun m k i v z h => IM.look_ins m k i v z h
  go_enter Try.func38, Try.ntmps38
  go_upto_region 1 with fail
  go_cut [6] (fun s6 wx => s6 = .func (.func 57) #[.pointer (some ⟨b, 0, none⟩)] #[] ∧ ∃ m j, wx = MW w m j)
  case first =>
    go_region
    all_goals (go_wp2_with fail; go_meet; exact ⟨rfl, _, _, rfl⟩)
  case rest =>
    obtain ⟨rfl, m, j, rfl⟩ := hcut
    clear hm0 hm1 hin hlk hdr hn0 hn1 hl0 hl1
    go_wp2_with fail
    refine (put_spec b v n x H.out _ (RBlk.upd (Upd.mw w m j) HB.out)).mono ?_
    rintro e w1 ⟨rfl, hb1, U1⟩
    go_wp2_with fail
    go_end0
    exact ⟨rfl, hb1, Upd.call U1 ((Upd.mw w _ _).mono (fun _ _ h => h.elim)) (fun _ _ h => h)⟩

set_option maxRecDepth 100000 in
set_option maxHeartbeats 16000000 in
theorem write_1 (b : Nat) (v n x : Int) (hx : 0 ≤ x ∧ x ≤ 4294967295) (w : World) (hb : RBlk w b v n) :
    Calls Try.prog 38 #[.pointer (some ⟨b, 0, none⟩), .int .i64 1, .int .u32 x] w fun e w' => e = .returned (.tuple #[]) ∧ RBlk w' b (plusW v x) ((n + 1) % 4294967296) ∧ Upd (· = b) w w' := by
  have HB := Lib.hid hb
  have H := Lib.hid hx
  have hm : w.cell? ⟨b, 2, none⟩ = some (.bool true) := hb.cell 2 rfl
  have hlt := hb.lt
  clear hb hx
  have hm0 := run_make_mw w
  have hm1 : (Instr.makeMap 114 .none).run Try.prog w.drew = .ok (.map (some w.heap.size)) (MW w IM.none 1) := rfl
  have hin := fun m j k v h => run_insert_mw w m j k v h
  have hlk := fun m j k => run_lookup_mw w m j k
  have hdr := fun m j => MW_drew w m j
  have hn0 := fun k => IM.has_none k
  have hn1 := fun m k v i => IM.has_ins m k v i
  have qn := fun f x y w => nil_not f x y w
  have hl0 := fun k z => IM.look_none k z
  have hl1 := fun m k i v z h => IM.look_ins m k i v z h
  go_enter Try.func38, Try.ntmps38
  go_upto_region 1 with fail
  go_cut [6] (fun s6 wx => s6 = .func (.func 58) #[.pointer (some ⟨b, 0, none⟩)] #[] ∧ ∃ m j, wx = MW w m j)
  case first =>
    go_region
    all_goals (go_wp2_with fail; go_meet; exact ⟨rfl, _, _, rfl⟩)
  case rest =>
    obtain ⟨rfl, m, j, rfl⟩ := hcut
    clear hm0 hm1 hin hlk hdr hn0 hn1 hl0 hl1
    go_wp2_with fail
    refine (plusM_spec b v n x H.out _ (RBlk.upd (Upd.mw w m j) HB.out)).mono ?_
    rintro e w1 ⟨rfl, hb1, U1⟩
    have HB1 := Lib.hid hb1
    have c1 : w1.cell? ⟨b, 1, none⟩ = some (.int .u32 n) := hb1.cell 1 rfl
    have f1 : w1.frozen? ⟨b, 1, none⟩ = false := hb1.frozen 1
    clear hb1
    go_wp2_with fail
    go_end0
    exact ⟨rfl, Blk.set HB1.out, (Upd.call U1 ((Upd.mw w _ _).mono (fun _ _ h => h.elim)) (fun _ _ h => h)).setCell (.inl rfl)⟩

set_option maxRecDepth 100000 in
set_option maxHeartbeats 16000000 in
theorem write_2 (b : Nat) (v n x : Int) (hx : 0 ≤ x ∧ x ≤ 4294967295) (w : World) (hb : RBlk w b v n) :
    Calls Try.prog 38 #[.pointer (some ⟨b, 0, none⟩), .int .i64 2, .int .u32 x] w fun e w' => e = .returned (.tuple #[]) ∧ RBlk w' b (timesW v x) ((n + 1) % 4294967296) ∧ Upd (· = b) w w' := by
  have HB := Lib.hid hb
  have H := Lib.hid hx
  have hm : w.cell? ⟨b, 2, none⟩ = some (.bool true) := hb.cell 2 rfl
  have hlt := hb.lt
  clear hb hx
  have hm0 := run_make_mw w
  have hm1 : (Instr.makeMap 114 .none).run Try.prog w.drew = .ok (.map (some w.heap.size)) (MW w IM.none 1) := rfl
  have hin := fun m j k v h => run_insert_mw w m j k v h
  have hlk := fun m j k => run_lookup_mw w m j k
  have hdr := fun m j => MW_drew w m j
  have hn0 := fun k => IM.has_none k
  have hn1 := fun m k v i => IM.has_ins m k v i
  have qn := fun f x y w => nil_not f x y w
  have hl0 := fun k z => IM.look_none k z
  have hl1 := fun m k i v z h => IM.look_ins m k i v z h
  go_enter Try.func38, Try.ntmps38
  go_upto_region 1 with fail
  go_cut [6] (fun s6 wx => s6 = .func (.func 59) #[.pointer (some ⟨b, 0, none⟩)] #[] ∧ ∃ m j, wx = MW w m j)
  case first =>
    go_region
    all_goals (go_wp2_with fail; go_meet; exact ⟨rfl, _, _, rfl⟩)
  case rest =>
    obtain ⟨rfl, m, j, rfl⟩ := hcut
    clear hm0 hm1 hin hlk hdr hn0 hn1 hl0 hl1
    go_wp2_with fail
    refine (timesM_spec b v n x H.out _ (RBlk.upd (Upd.mw w m j) HB.out)).mono ?_
    rintro e w1 ⟨rfl, hb1, U1⟩
    have HB1 := Lib.hid hb1
    have c1 : w1.cell? ⟨b, 1, none⟩ = some (.int .u32 n) := hb1.cell 1 rfl
    have f1 : w1.frozen? ⟨b, 1, none⟩ = false := hb1.frozen 1
    clear hb1
    go_wp2_with fail
    go_end0
    exact ⟨rfl, Blk.set HB1.out, (Upd.call U1 ((Upd.mw w _ _).mono (fun _ _ h => h.elim)) (fun _ _ h => h)).setCell (.inl rfl)⟩

set_option maxRecDepth 100000 in
set_option maxHeartbeats 16000000 in
theorem write_3 (b : Nat) (v n x : Int) (hx : 0 ≤ x ∧ x ≤ 4294967295) (w : World) (hb : RBlk w b v n) :
    Calls Try.prog 38 #[.pointer (some ⟨b, 0, none⟩), .int .i64 3, .int .u32 x] w fun e w' => e = .returned (.tuple #[]) ∧ RBlk w' b (turnW (x % 4).toNat v) ((n + 1) % 4294967296) ∧ Upd (· = b) w w' := by
  have HB := Lib.hid hb
  have H := Lib.hid hx
  have hm : w.cell? ⟨b, 2, none⟩ = some (.bool true) := hb.cell 2 rfl
  have hlt := hb.lt
  clear hb hx
  have hm0 := run_make_mw w
  have hm1 : (Instr.makeMap 114 .none).run Try.prog w.drew = .ok (.map (some w.heap.size)) (MW w IM.none 1) := rfl
  have hin := fun m j k v h => run_insert_mw w m j k v h
  have hlk := fun m j k => run_lookup_mw w m j k
  have hdr := fun m j => MW_drew w m j
  have hn0 := fun k => IM.has_none k
  have hn1 := fun m k v i => IM.has_ins m k v i
  have qn := fun f x y w => nil_not f x y w
  have hl0 := fun k z => IM.look_none k z
  have hl1 := fun m k i v z h => IM.look_ins m k i v z h
  go_enter Try.func38, Try.ntmps38
  go_upto_region 1 with fail
  go_cut [6] (fun s6 wx => s6 = .func (.func 60) #[.pointer (some ⟨b, 0, none⟩)] #[] ∧ ∃ m j, wx = MW w m j)
  case first =>
    go_region
    all_goals (go_wp2_with fail; go_meet; exact ⟨rfl, _, _, rfl⟩)
  case rest =>
    obtain ⟨rfl, m, j, rfl⟩ := hcut
    clear hm0 hm1 hin hlk hdr hn0 hn1 hl0 hl1
    go_wp2_with fail
    refine (turnM_spec b v n x H.out _ (RBlk.upd (Upd.mw w m j) HB.out)).mono ?_
    rintro e w1 ⟨rfl, hb1, U1⟩
    have HB1 := Lib.hid hb1
    have c1 : w1.cell? ⟨b, 1, none⟩ = some (.int .u32 n) := hb1.cell 1 rfl
    have f1 : w1.frozen? ⟨b, 1, none⟩ = false := hb1.frozen 1
    clear hb1
    go_wp2_with fail
    go_end0
    exact ⟨rfl, Blk.set HB1.out, (Upd.call U1 ((Upd.mw w _ _).mono (fun _ _ h => h.elim)) (fun _ _ h => h)).setCell (.inl rfl)⟩

end Go.Proofs.Ytnmbkhofikbcjaa
